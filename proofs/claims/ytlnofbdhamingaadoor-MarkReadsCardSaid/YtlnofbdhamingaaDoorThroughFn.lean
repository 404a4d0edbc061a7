/- The polynomial through some places: the reference's walk. -/
import Derived.Test.YtlnofbdhamingaaDoorThroughP
import Derived.Test.YtlnofbdhamingaaDoorFitR
import Derived.Test.YtlnofbdhamingaaDoorTail
import Derived.Deep.DeepCutAuto
import Derived.Deep.Cut
set_option linter.unusedVariables false
set_option linter.unusedSimpArgs false
namespace Go.Proofs.YtlnofbdhamingaaDoor
open Go.RowKit Go.Sort

theorem xor_u8 {a b : Nat} (ha : a < 16) (hb : b < 16) : bits BinOp.xor IntKind.u8 (a : Int) (b : Int) = ((a ^^^ b : Nat) : Int) := u8_xor_nat a b (by omega) (by omega)
theorem places_cells {w : World} {v : Value} {ps : List Nat} {n : Nat} (h : IntsAt w v (natI ps)) (hn : ps.length = n) : ∃ ao cap, v = .slice ao n cap ∧ ∀ i, i < n → ∃ b off, ao = some ⟨b, off, none⟩ ∧ w.cell? ⟨b, off + i, none⟩ = some (.int .i64 ((ps.getD i 0 : Nat) : Int)) := by
  obtain ⟨-, ao, cap, he, -, -, -, hc⟩ := h
  rw [natI_len, hn] at he
  exact ⟨ao, cap, he, fun i hi => hc i _ (natI_get (by omega))⟩
set_option maxRecDepth 100000 in
set_option maxHeartbeats 16000000 in
theorem r_through (v vp : Value) (wd ps : List Nat) (w : World) (hv : BytesAt w v wd) (hwl : wd.length = 15) (hs : Syms wd) (hp : IntsAt w vp (natI ps)) (hP : Places ps) (hl15 : ps.length ≤ 15) :
    Calls Tryd.prog 98 #[v, vp] w fun e w' => ∃ v', e = .returned v' ∧ w'.ownsRow w.heap.size 5 1 v' ps.length (bytesL (throughR wd ps)) ∧ Ext w w' := by
  obtain ⟨i0, hi, hz0, hz1, hz2⟩ := info_parts3 info_byte
  obtain ⟨n, hn⟩ : ∃ n, ps.length = n := ⟨_, rfl⟩
  obtain ⟨po, pc, rfl, hpc⟩ := places_cells hp hn
  obtain ⟨vo, vc, rfl, hvc⟩ := bytes_cells hv
  rw [hwl] at hvc ⊢
  have HPC := Lib.hid hpc
  have HVC := Lib.hid hvc
  have HS := Lib.hid hs
  have HPl := Lib.hid hP
  have HN := Lib.hid hn
  have hn15 : n ≤ 15 := by omega
  have HT0 := Lib.hid (show throughK wd ps 0 = List.replicate n 0 by show List.replicate ps.length 0 = _; rw [hn])
  have HTL := Lib.hid (show ∀ j, j ≤ n → (throughK wd ps j).length = n from fun j hj => by rw [throughK_len wd ps (by omega), hn])
  clear hv hwl hs hp hP hl15 hpc hvc hn
  go_enter Tryd.func98, Tryd.ntmps98
  go_wp2_with (at_make; refine wpList_make_full _ rfl _ _ 22 rfl w.heap.size 5 i0 (.int .u8 0) 1 Tryd.underlying22 hi hz0 hz1 .i64 .i64 _ _ n rfl rfl rfl rfl (by rw [hz2]; omega) (by unfold maxLen; omega) (Nat.le_refl _) ?_; intro w1 ho1 hg1; rw [made_zero (List.replicate n 0) n, rowK_zero, show List.replicate n (Value.int .u8 0) = bytesL (List.replicate n 0) by simp [bytesL]] at ho1; have h1 : Ext w w1 := ext_of_grownNone hg1)
  obtain ⟨g, hg⟩ : ∃ g, w.heap.size = g := ⟨_, rfl⟩
  have O1 := Lib.hid (show w1.ownsRow g 5 1 (.slice (some ⟨g, 0, none⟩) n n) n (bytesL (throughK wd ps 0)) by rw [HT0.out, ← hg]; exact ho1)
  have HWG := Lib.hid (show w.heap.size ≤ g by omega)
  rw [hg]
  clear ho1 hg1 HT0 hg
  go_loopw [6] (fun jj wi => ∃ j : Nat, j ≤ n ∧ jj = .int .i64 (j : Int) ∧ Ext w wi ∧ Hid (wi.ownsRow g 5 1 (.slice (some ⟨g, 0, none⟩) n n) n (bytesL (throughK wd ps j)))) (fun jj _ => n - (intOf jj).toNat)
  case atStart => exact ⟨0, Nat.zero_le _, rfl, h1, O1⟩
  case round =>
    clear O1
    obtain ⟨j, hj, rfl, hE, hO⟩ := hrel
    by_cases hjn : j < n
    · have p1 : decide ((j : Int) < (n : Int)) = true := decide_eq_true (by omega)
      have p2 : (j : Int) < (n : Int) := by omega
      have hgr := (hO.out.lt g rfl).2
      obtain ⟨pb, pf, rfl, cj'⟩ := HPC.out j hjn
      have hpj := places_get HPl.out (i := j) (by rw [HN.out]; exact hjn)
      obtain ⟨q, hq⟩ : ∃ q, ps.getD j 0 = q := ⟨_, rfl⟩
      rw [hq] at cj' hpj
      obtain ⟨vb, vf, rfl, cq'⟩ := HVC.out q hpj
      have cj := hE.get cj'
      have cq := hE.get cq'
      have hL0 := Lib.hid (show lagK wd ps j 0 = [wd.getD q 0] by show [wd.getD (ps.getD j 0) 0] = _; rw [hq])
      obtain ⟨x0, hx0⟩ : ∃ x, wd.getD q 0 = x := ⟨_, rfl⟩
      rw [hx0] at cq hL0
      have HQ := Lib.hid (And.intro hq hx0)
      have hqi : (q : Int) < 15 := by omega
      clear hx0 cq' hq
      go_wp2
      obtain ⟨W2, hW2⟩ : ∃ W, wr.alloc (.cells #[.int .u8 (x0 : Int)] 5) = W := ⟨_, rfl⟩
      have hE2 := Lib.hid (show Ext wr W2 by rw [← hW2]; exact (Ext.refl wr).alloc _)
      have hP0 := Lib.hid (show BytesAt W2 (.slice (some ⟨wr.heap.size, 0, none⟩) 1 1) (lagK wd ps j 0) by rw [hL0.out, ← hW2]; exact SlAt.of_owns (owns_lit wr (bytesL [x0]) 5 1 1 0 (Nat.zero_le _) (by unfold maxLen; omega) rfl))
      rw [hW2]
      obtain ⟨wq, hwq⟩ : ∃ wq : World, wq = wr := ⟨_, rfl⟩
      rw [← hwq] at hE hO hE2 cj hgr hP0 ⊢
      clear hW2 cq hwq
      go_loopw [7, 8] (fun pv ii wi => ∃ i : Nat, i ≤ n ∧ ii = .int .i64 (i : Int) ∧ Ext wq wi ∧ Hid (BytesAt wi pv (lagK wd ps j i)) ∧ Hid (∀ b, pv.ownBlock = some b → wq.heap.size ≤ b)) (fun _ ii _ => n - (intOf ii).toNat)
      case atStart => exact ⟨0, Nat.zero_le _, rfl, hE2.out, hP0, Lib.hid (fun b hb => Nat.le_of_eq (Option.some.inj hb))⟩
      case round =>
        clear hP0 hE2
        obtain ⟨i, hi', rfl, hE2, hPv, hPn⟩ := hrel
        obtain ⟨m, hm⟩ : ∃ m, (lagK wd ps j i).length = m := ⟨_, rfl⟩
        have hmb : m ≤ i + 1 := by rw [← hm, lagK_len]; split <;> omega
        obtain ⟨mo, mc, rfl, hmc⟩ := bytes_cells hPv.out
        rw [hm] at hmc ⊢
        rw [hm] at hPv hPn
        have HMC := Lib.hid hmc
        have HM := Lib.hid hm
        clear hmc hm
        by_cases hin : i < n
        · have r1 : decide ((i : Int) < (n : Int)) = true := decide_eq_true (by omega)
          have r2 : (i : Int) < (n : Int) := by omega
          by_cases hij : i = j
          · have k1 : ((i : Int) == (j : Int)) = true := by rw [hij]; exact beq_self_eq_true _
            have HL := Lib.hid (show lagK wd ps j (i + 1) = lagK wd ps j i by rw [lagK, if_pos hij])
            clear hij
            go_wp2
            exact ⟨⟨i + 1, by omega, by go_num, hE2, Lib.hid (by rw [HL.out]; exact hPv.out), hPn⟩, by simp [intOf]; omega⟩
          · have k1 : ((i : Int) == (j : Int)) = false := by simp; omega
            have HL := Lib.hid (show lagK wd ps j (i + 1) = stepL (powN (ps.getD i 0)) (ginv (powN (ps.getD i 0) ^^^ powN (ps.getD j 0))) (lagK wd ps j i) by rw [lagK, if_neg hij])
            have hne := places_ne HPl.out (i := i) (j := j) (by rw [HN.out]; exact hin) (by rw [HN.out]; exact hjn) hij
            have hsy := lagK_syms HS.out HPl.out (j := j) (by rw [HN.out]; exact hjn) (i := i) (by rw [HN.out]; exact hi')
            have hpi := places_get HPl.out (i := i) (by rw [HN.out]; exact hin)
            obtain ⟨pb2, pf2, epo, ci'⟩ := HPC.out i hin
            cases epo
            have ci := (hE.trans hE2).get ci'
            have cj2 := hE2.get cj
            have zpb := World.block_lt_of_cell? _ _ ci
            simp only at zpb
            rw [HQ.out.1] at HL hne
            obtain ⟨u, hu⟩ : ∃ q, ps.getD i 0 = q := ⟨_, rfl⟩
            rw [hu] at ci HL hne hpi
            have ha16 := pow_lt hpi
            have hb16 := pow_lt hpj
            have KA := Lib.hid (fun w' => r_Point u (by omega) w')
            have KB := Lib.hid (fun w' => r_Point q (by omega) w')
            obtain ⟨a, haa⟩ : ∃ a, powN u = a := ⟨_, rfl⟩
            obtain ⟨b, hbb⟩ : ∃ b, powN q = b := ⟨_, rfl⟩
            rw [haa] at KA HL hne ha16
            rw [hbb] at KB HL hne hb16
            have X1 := xor_u8 ha16 hb16
            obtain ⟨ab, hab⟩ : ∃ z, a ^^^ b = z := ⟨_, rfl⟩
            rw [hab] at X1 HL hne
            have KO := Lib.hid (fun w' => r_Over ab hne.2 hne.1 w')
            have hx16 := (gmul_inv hne.2 hne.1).2.1
            obtain ⟨x, hxx⟩ : ∃ x, ginv ab = x := ⟨_, rfl⟩
            rw [hxx] at KO HL hx16
            obtain ⟨p, hpp⟩ : ∃ p, lagK wd ps j i = p := ⟨_, rfl⟩
            rw [hpp] at HL HMC HM hsy hPv
            have HU := Lib.hid (And.intro hu (And.intro haa (And.intro hbb (And.intro hab (And.intro hxx hpp)))))
            clear hij hu haa hbb hab hxx hpp hne ci' hpi
            go_wp2
            refine wp_region_quiet_below (by kernel_rfl) (by kernel_rfl) ?_
            repeat (go_big_quiet_step (first
              | (go_at_call 92; with_reducible exact Calls.ext_of (KA.out _))
              | (go_at_call 92; with_reducible exact Calls.ext_of (KB.out _))))
            refine wpQuiet_nil ?_
            intro w3 hw'
            obtain ⟨pq, hw''⟩ := hw'
            have h3 := ext_of_regrown hw''
            clear hw'' pq
            have hE3 := Lib.hid (hE2.trans h3)
            have hP3 := Lib.hid (hPv.out.ext h3)
            have HM3 := Lib.hid (fun k (hk : k < m) => by
              obtain ⟨b9, o9, e9, c9⟩ := HMC.out k hk
              exact (show ∃ b off, mo = some ⟨b, off, none⟩ ∧ w3.cell? ⟨b, off + k, none⟩ = some (.int .u8 ((p.getD k 0 : Nat) : Int)) from ⟨b9, o9, e9, h3.get c9⟩))
            clear hPv h3 ci cj2 KA KB hE2 HMC zpb
            obtain ⟨m1, hm1⟩ : ∃ z, m + 1 = z := ⟨_, rfl⟩
            have t1 : (m : Int) + 1 = (m1 : Int) := by omega
            have HNZ := Lib.hid (show nextK a x p 0 = List.replicate m1 0 by rw [nextK_zero, HM.out, hm1])
            have HNL := Lib.hid (show ∀ k, (nextK a x p k).length = m1 from fun k => by rw [nextK_len, HM.out, hm1])
            have hm17 : m1 ≤ 17 := by omega
            go_wp2_with (first
              | (at_make; refine wpList_make_full _ rfl _ _ 22 rfl w3.heap.size 5 i0 (.int .u8 0) 1 Tryd.underlying22 hi hz0 hz1 .i64 .i64 _ _ m1 rfl rfl rfl rfl (by rw [hz2]; omega) (by unfold maxLen; omega) (Nat.le_refl _) ?_; intro w4 ho4 hg4; rw [made_zero (List.replicate m1 0) m1, rowK_zero, show List.replicate m1 (Value.int .u8 0) = bytesL (List.replicate m1 0) by simp [bytesL]] at ho4; have h4 : Ext w3 w4 := ext_of_grownNone hg4)
              | (go_at_call 56; (with_reducible refine (KO.out _).mono ?_); rintro E w5 ⟨rfl, h5⟩; have h45 := h4.trans h5))
            obtain ⟨B, hB⟩ : ∃ B, w3.heap.size = B := ⟨_, rfl⟩
            have O5 := Lib.hid (show w5.ownsRow B 5 1 (.slice (some ⟨B, 0, none⟩) m1 m1) m1 (bytesL (nextK a x p 0)) by rw [HNZ.out, ← hB]; exact owns_ext ho4 h5)
            have HB := Lib.hid hB
            rw [hB]
            clear ho4 hg4 h4 h5 hB KO HNZ X1
            go_loopw [13] (fun kk wi => ∃ k : Nat, k ≤ m ∧ kk = .int .i64 (k : Int) ∧ Ext w3 wi ∧ Hid (wi.ownsRow B 5 1 (.slice (some ⟨B, 0, none⟩) m1 m1) m1 (bytesL (nextK a x p k)))) (fun kk _ => m - (intOf kk).toNat)
            case atStart => exact ⟨0, Nat.zero_le _, rfl, h45, O5⟩
            case round =>
              clear O5 h45
              obtain ⟨k, hk, rfl, hE4, hX⟩ := hrel
              by_cases hkm : k < m
              · have s1 : decide ((k : Int) < (m : Int)) = true := decide_eq_true (by omega)
                have s2 : (k : Int) < (m : Int) := by omega
                obtain ⟨mb, mf, rfl, ck'⟩ := HM3.out k hkm
                have ck := hE4.get ck'
                have hpk := syms_get hsy k
                have hset := nextK_set (a := a) (x := x) (p := p) (k := k) (by rw [HM.out]; exact hkm)
                obtain ⟨pk, hpk2⟩ : ∃ z, p.getD k 0 = z := ⟨_, rfl⟩
                rw [hpk2] at ck hpk hset
                obtain ⟨k1, hk1⟩ : ∃ z, k + 1 = z := ⟨_, rfl⟩
                have t2 : (k : Int) + 1 = (k1 : Int) := by omega
                have s3 : (k1 : Int) < (m1 : Int) := by omega
                have s4 : (k : Int) < (m1 : Int) := by omega
                rw [hk1] at hset
                have c1 : wr.cell? ⟨B, k1, none⟩ = some (.int .u8 (((nextK a x p k).getD k1 0 : Nat) : Int)) := by
                  rw [hX.out.cellAt k1 (by omega), bytesL_get (by rw [HNL.out]; omega)]
                have o1 : (nextK a x p k).getD k1 0 < 16 := by rw [nextK_get (by rw [HM.out]; omega)]; exact nextE_lt ha16 hx16 hsy _ _
                have o0 : (nextK a x p k).getD k 0 < 16 := by rw [nextK_get (by rw [HM.out]; omega)]; exact nextE_lt ha16 hx16 hsy _ _
                have g0 : (nextK a x p k)[k]? = some ((nextK a x p k).getD k 0) := by rw [List.getD_eq_getElem?_getD, List.getElem?_eq_getElem (by rw [HNL.out]; omega)]; rfl
                have f1 := hX.out.frozenAt k1
                have KT1 := Lib.hid (fun w' => r_Times pk x hpk hx16 w')
                have KT2 := Lib.hid (fun w' => r_Times pk a hpk ha16 w')
                have hy2 := gmul_lt hpk ha16
                have hy1 := gmul_lt hpk hx16
                obtain ⟨y1, hy1e⟩ : ∃ z, gmul pk x = z := ⟨_, rfl⟩
                obtain ⟨y2, hy2e⟩ : ∃ z, gmul pk a = z := ⟨_, rfl⟩
                rw [hy1e] at KT1 hy1 hset
                rw [hy2e] at KT2 hy2 hset
                have KT3 := Lib.hid (fun w' => r_Times y2 x hy2 hx16 w')
                have hy3 := gmul_lt hy2 hx16
                obtain ⟨y3, hy3e⟩ : ∃ z, gmul y2 x = z := ⟨_, rfl⟩
                rw [hy3e] at KT3 hy3 hset
                obtain ⟨v1, hv1⟩ : ∃ z, (nextK a x p k).getD k1 0 = z := ⟨_, rfl⟩
                obtain ⟨v0, hv0⟩ : ∃ z, (nextK a x p k).getD k 0 = z := ⟨_, rfl⟩
                rw [hv1] at c1 o1 hset
                rw [hv0] at o0 hset g0
                have X1 := xor_u8 o1 hy1
                have X0 := xor_u8 o0 hy3
                obtain ⟨z1, hz1e⟩ : ∃ z, v1 ^^^ y1 = z := ⟨_, rfl⟩
                obtain ⟨z0, hz0e⟩ : ∃ z, v0 ^^^ y3 = z := ⟨_, rfl⟩
                rw [hz1e] at X1 hset
                rw [hz0e] at X0 hset
                have HSet := Lib.hid hset
                have HG0 := Lib.hid g0
                have HK1 := Lib.hid hk1
                have HU2 := Lib.hid (And.intro hpk2 (And.intro hy1e (And.intro hy2e (And.intro hy3e (And.intro hv1 (And.intro hv0 (And.intro hz1e hz0e)))))))
                have hkk1 : k1 ≠ k := by omega
                clear hset g0 hpk2 hk1 hy1e hy2e hy3e hv1 hv0 hz1e hz0e ck'
                go_wp2
                refine RG.region_tail (aq := ?aqn) 13 (by kernel_rfl) (by kernel_rfl) (by kernel_rfl) (by kernel_rfl) ?_ ?_
                rotate_left
                · intro wx hEq
                  have q0 := hEq.get ck
                  have q1 := hEq.get c1
                  have b0 := World.block_lt_of_cell? _ _ q0
                  have b1 := World.block_lt_of_cell? _ _ q1
                  simp only at b0 b1
                  simp only [List.take_succ_cons, List.take_zero]
                  repeat (go_big_quiet_step (first | (go_at_call 54; with_reducible exact Calls.ext_of (KT1.out _))))
                  refine wpQuiet_nil ?_
                  exact rfl
                · intro wt hEt
                  simp only [List.drop_succ_cons, List.drop_zero]
                  have hXt := Lib.hid (owns_ext hX.out hEt)
                  have hE5 := Lib.hid (hE4.trans hEt)
                  have u1 := hEt.get c1
                  have u2 := hXt.out.frozenAt k1
                  have hck5 := Lib.hid (hEt.get ck)
                  clear hEt c1 f1 ck hX hE4
                  go_upto_region 17 with fail
                  have hX6 := Lib.hid (show (wt.setCell ⟨B, k1, none⟩ (.int .u8 (z1 : Int))).ownsRow B 5 1 (.slice (some ⟨B, 0, none⟩) m1 m1) m1 (bytesL ((nextK a x p k).set k1 z1)) by
                    have h := (hXt.out.stored k1 (.int .u8 (z1 : Int))).1
                    rw [bytesL_set] at h
                    exact h)
                  have hE6 := Lib.hid (show Ext w3 (wt.setCell ⟨B, k1, none⟩ (.int .u8 (z1 : Int))) from hE5.out.setCell (p := ⟨B, k1, none⟩) (Nat.le_of_eq HB.out) _)
                  obtain ⟨W6, hW6⟩ : ∃ W, wt.setCell ⟨B, k1, none⟩ (.int .u8 (z1 : Int)) = W := ⟨_, rfl⟩
                  rw [hW6] at hX6 hE6 ⊢
                  have ck6 : W6.cell? ⟨mb, mf + k, none⟩ = some (.int .u8 (pk : Int)) := by
                    obtain ⟨b9, o9, e9, c9⟩ := HM3.out k hkm
                    cases e9
                    rw [HU2.out.1] at c9
                    exact hE6.out.get c9
                  have c6 : W6.cell? ⟨B, k, none⟩ = some (.int .u8 (v0 : Int)) := by
                    rw [hX6.out.cellAt k (by omega)]
                    show (((nextK a x p k).set k1 z1).map _)[k]? = _
                    rw [List.getElem?_map, List.getElem?_set_ne hkk1, HG0.out]; rfl
                  have f6 := hX6.out.frozenAt k
                  clear hW6 u1 u2 hXt hE5 hck5
                  refine RG.region_tail (aq := ?aqn2) 14 (by kernel_rfl) (by kernel_rfl) (by kernel_rfl) (by kernel_rfl) ?_ ?_
                  rotate_left
                  · intro wx hEq
                    have q0 := hEq.get ck6
                    have q1 := hEq.get c6
                    have b0 := World.block_lt_of_cell? _ _ q0
                    have b1 := World.block_lt_of_cell? _ _ q1
                    simp only at b0 b1
                    simp only [List.take_succ_cons, List.take_zero]
                    repeat (go_big_quiet_step (first
                      | (go_at_call 54; with_reducible exact Calls.ext_of (KT2.out _))
                      | (go_at_call 54; with_reducible exact Calls.ext_of (KT3.out _))))
                    refine wpQuiet_nil ?_
                    exact rfl
                  · intro wt2 hEt2
                    simp only [List.drop_succ_cons, List.drop_zero]
                    have hX7 := Lib.hid (owns_ext hX6.out hEt2)
                    have hE7 := Lib.hid (hE6.out.trans hEt2)
                    have u1 := hEt2.get c6
                    have u2 := hX7.out.frozenAt k
                    clear hEt2 c6 f6 ck6 hX6 hE6
                    go_wp2
                    exact ⟨⟨k1, by have := HK1.out; omega, rfl, hE7.out.setCell (p := ⟨B, k, none⟩) (Nat.le_of_eq HB.out) _, Lib.hid (by
                      have h := (hX7.out.stored k (.int .u8 (z0 : Int))).1
                      rw [bytesL_set, HSet.out] at h
                      exact h)⟩, by simp [intOf]; have := HK1.out; omega⟩
              · have s1 : decide ((k : Int) < (m : Int)) = false := decide_eq_false (by omega)
                have ek : k = m := by omega
                have hX9 := hX.out
                rw [ek, ← HM.out, nextK_full] at hX9
                have HX9 := Lib.hid (show wr.ownsRow B 5 1 (.slice (some ⟨B, 0, none⟩) m1 m1) m1 (bytesL (lagK wd ps j (i + 1))) by rw [HL.out]; exact hX9)
                have HL1 := Lib.hid (show (lagK wd ps j (i + 1)).length = m1 by rw [HL.out, stepL_len, HM.out, hm1])
                clear hX hX9 ek
                go_wp2
                exact ⟨⟨i + 1, by omega, by go_num, hE3.out.trans hE4, Lib.hid (by
                  show SlAt wr 1 _ (lagK wd ps j (i + 1)).length _
                  rw [HL1.out]
                  exact SlAt.of_owns HX9.out), Lib.hid (fun b hb => by
                    have e1 : B = b := Option.some.inj hb
                    have e2 := hE3.out.size
                    have e3 := HB.out
                    omega)⟩, by simp [intOf]; omega⟩
        · have r1 : decide ((i : Int) < (n : Int)) = false := decide_eq_false (by omega)
          have ei : i = n := by omega
          rw [ei] at hPv HMC HM
          have hmn : m = n := by rw [← HM.out, ← HN.out]; exact lagK_full wd ps (by rw [HN.out]; exact hjn)
          rw [hmn] at hPv HMC hPn HM ⊢
          have hOz := Lib.hid (owns_ext hO.out hE2)
          have HTJ := Lib.hid (show throughK wd ps (j + 1) = padd (throughK wd ps j) (lagK wd ps j n) by rw [throughK, HN.out])
          have hts := throughK_syms HS.out HPl.out (j := j) (by rw [HN.out]; exact hj)
          have hls := lagK_syms HS.out HPl.out (j := j) (by rw [HN.out]; exact hjn) (i := n) (by rw [HN.out]; exact Nat.le_refl _)
          have HTLj := Lib.hid (HTL.out j hj)
          obtain ⟨o, hoe⟩ : ∃ z, throughK wd ps j = z := ⟨_, rfl⟩
          obtain ⟨p, hpe⟩ : ∃ z, lagK wd ps j n = z := ⟨_, rfl⟩
          rw [hoe] at hOz HTJ hts HTLj
          rw [hpe] at hPv HMC HM HTJ hls
          have HXF := Lib.hid (show xorK o p n = padd o p by
            have := xorK_full (o := o) (p := p) (by rw [HM.out, HTLj.out])
            rw [HTLj.out] at this
            exact this)
          have HX0 := Lib.hid (xorK_zero o p)
          obtain ⟨wz, hwz⟩ : ∃ wz : World, wz = wr := ⟨_, rfl⟩
          rw [← hwz] at hPv HMC hE2 hOz ⊢
          have O0 := Lib.hid (show wz.ownsRow g 5 1 (.slice (some ⟨g, 0, none⟩) n n) n (bytesL (xorK o p 0)) by rw [HX0.out]; exact hOz.out)
          have HOP := Lib.hid (And.intro hoe hpe)
          have HEz := Lib.hid (hE.trans hE2)
          clear hwz ei hmn hoe hpe hOz hO
          go_wp2
          go_loopw [14] (fun kk wi => ∃ k : Nat, k ≤ n ∧ kk = .int .i64 (k : Int) ∧ Hid (wz.grownBy wi (some g)) ∧ Hid (wi.ownsRow g 5 1 (.slice (some ⟨g, 0, none⟩) n n) n (bytesL (xorK o p k)))) (fun kk _ => n - (intOf kk).toNat)
          case atStart => exact ⟨0, Nat.zero_le _, rfl, Lib.hid (World.grownBy.refl _ _), O0⟩
          case round =>
            clear O0
            obtain ⟨k, hk, rfl, hG, hX⟩ := hrel
            by_cases hkn : k < n
            · have s1 : decide ((k : Int) < (n : Int)) = true := decide_eq_true (by omega)
              have s2 : (k : Int) < (n : Int) := by omega
              obtain ⟨mb, mf, rfl, ck'⟩ := HMC.out k hkn
              have hmbq : wq.heap.size ≤ mb := hPn.out mb rfl
              have hbz := World.block_lt_of_cell? _ _ ck'
              simp only at hbz
              have ck : wr.cell? ⟨mb, mf + k, none⟩ = some (.int .u8 ((p.getD k 0 : Nat) : Int)) := by
                rw [World.cell?_of_block (hG.out.block mb hbz (fun h => by have := Option.some.inj h; omega))]
                exact ck'
              have c1 : wr.cell? ⟨g, k, none⟩ = some (.int .u8 ((o.getD k 0 : Nat) : Int)) := by
                rw [hX.out.cellAt k (by omega), bytesL_get (by rw [xorK_len, HTLj.out]; omega), xorK_get (by rw [HTLj.out]; exact hkn), if_neg (Nat.lt_irrefl _)]
              have f1 := hX.out.frozenAt k
              have hset := xorK_set (o := o) (p := p) (n := k) (by rw [HTLj.out]; exact hkn)
              have ho1 := syms_get hts k
              have hp1 := syms_get hls k
              obtain ⟨v1, hv1⟩ : ∃ z, o.getD k 0 = z := ⟨_, rfl⟩
              obtain ⟨v2, hv2⟩ : ∃ z, p.getD k 0 = z := ⟨_, rfl⟩
              rw [hv1] at c1 ho1 hset
              rw [hv2] at ck hp1 hset
              have X1 := xor_u8 ho1 hp1
              obtain ⟨z1, hz1e⟩ : ∃ z, v1 ^^^ v2 = z := ⟨_, rfl⟩
              rw [hz1e] at X1 hset
              have HSet := Lib.hid hset
              have HV := Lib.hid (And.intro hv1 (And.intro hv2 hz1e))
              clear hset hv1 hv2 hz1e ck'
              go_wp2
              refine RG.region_tail (aq := ?aqn3) 10 (by kernel_rfl) (by kernel_rfl) (by kernel_rfl) (by kernel_rfl) ?_ ?_
              rotate_left
              · intro wx hEq
                have q0 := hEq.get ck
                have q1 := hEq.get c1
                have b0 := World.block_lt_of_cell? _ _ q0
                have b1 := World.block_lt_of_cell? _ _ q1
                simp only at b0 b1
                simp only [List.take_succ_cons, List.take_zero]
                repeat (go_big_quiet_step (fail))
                refine wpQuiet_nil ?_
                exact rfl
              · intro wt hEt
                simp only [List.drop_succ_cons, List.drop_zero]
                have hXt := Lib.hid (owns_ext hX.out hEt)
                have hGt := Lib.hid (gb_trans hG.out (gb_ext hEt (some g)))
                have u1 := hEt.get c1
                have u2 := hXt.out.frozenAt k
                clear hEt c1 f1 ck hX hG
                go_wp2
                exact ⟨⟨k + 1, by omega, by go_num, Lib.hid (gb_trans hGt.out (gb_set _ _ _ _)), Lib.hid (by
                  have h := (hXt.out.stored k (.int .u8 (z1 : Int))).1
                  rw [bytesL_set, HSet.out] at h
                  exact h)⟩, by simp [intOf]; omega⟩
            · have s1 : decide ((k : Int) < (n : Int)) = false := decide_eq_false (by omega)
              have ek : k = n := by omega
              have hX9 := hX.out
              rw [ek, HXF.out, ← HTJ.out] at hX9
              have HX9 := Lib.hid hX9
              clear hX hX9 ek
              go_wp2
              exact ⟨⟨j + 1, by omega, by go_num, HEz.out.gb hG.out HWG.out, HX9⟩, by simp [intOf]; omega⟩
    · have p1 : decide ((j : Int) < (n : Int)) = false := decide_eq_false (by omega)
      have ej : j = n := by omega
      rw [ej] at hO
      have HO := Lib.hid hO.out
      clear hO ej
      go_wp2
      go_ret
      exact ⟨_, rfl, by
        rw [HN.out]
        unfold throughR
        rw [HN.out]
        exact owns_base HO.out HWG.out, hE⟩
end Go.Proofs.YtlnofbdhamingaaDoor
