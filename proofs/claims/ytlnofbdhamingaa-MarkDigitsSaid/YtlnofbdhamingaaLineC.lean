/- Lines of digits: the program's. -/
import Derived.Test.YtlnofbdhamingaaLineFn
set_option linter.unusedVariables false
set_option linter.unusedSimpArgs false
namespace Go.Proofs.Ytlnofbdhamingaa
open Go.RowKit Go.Sort

theorem Ext.trans_below {a b c : World} (h : Ext a b) (k : Below a.heap.size b c) : Ext a c := Below.trans h k
set_option maxRecDepth 100000 in
set_option maxHeartbeats 16000000 in
theorem c_ReadLine (m : Img) (v : Value) (s : Int) (c : Con) (need : Int) (w : World) (hv : IntsAt w v m.pix) (hl : m.pix.length ≤ maxLen) :
    Calls Try.prog 9 #[imgVal m v, .int .i64 s, conVal c, .int .i64 need] w (StrErr (lineI m s c need) w) := by
  obtain ⟨i1, ki, kz0, kz1, kz2⟩ := info_parts3 info_byte
  have K1 := Lib.hid (fun w' (h : Ext w w') => c_Modules m v s c w' (hv.ext h) hl)
  unfold BytesErr at K1
  have HD := Lib.hid (lineI_def m s c need)
  have HM := Lib.hid (fun h => modules_ok (m := m) (s := s) (c := c) h)
  obtain ⟨ao, cap, rfl, -, -⟩ := hv.form
  clear hv
  obtain ⟨mr, hmr⟩ : ∃ mr, modulesI m s c = mr := ⟨_, rfl⟩
  rw [hmr] at K1 HD
  simp only [hmr] at HM
  clear hmr
  obtain ⟨ms, er⟩ := mr
  obtain ⟨mw, mh, pix⟩ := m
  obtain ⟨lo, hi'⟩ := c
  dsimp only at HD HM K1
  unfold imgVal conVal at *
  dsimp only at *
  by_cases he : er = 0
  case neg =>
    have q : ((er : Int) != 0) = true := by rw [bne_iff_ne]; exact he
    have HI := Lib.hid (show lineI ⟨mw, mh, pix⟩ s ⟨lo, hi'⟩ need = ([], er) by rw [HD.out, if_neg he])
    clear he
    go_enter Try.func9, Try.ntmps9
    go_wp2_with (go_at_call 16; (with_reducible refine (K1.out _ (by repeat (first | exact Ext.refl _ | assumption | refine Ext.alloc ?_ _ | refine Ext.drewN ?_ _ | refine ext_grow ?_ _ _ | refine Ext.trans ?_ (by assumption)))).mono ?_); rintro E w1 ⟨v1, rfl, h0, h1⟩; obtain ⟨⟨c0, c1, c2⟩, -⟩ := run_3 (h1.blk (heap_alloc2_old w _ _)); obtain ⟨⟨d0, d1⟩, -⟩ := run_2 (h1.blk (heap_alloc2_new w _ _)))
    go_ret2
    exact ⟨by rw [HI.out]; rfl, (by repeat (first | exact Ext.refl _ | assumption | refine Ext.alloc ?_ _ | refine Ext.drewN ?_ _ | refine ext_grow ?_ _ _ | refine Ext.trans ?_ (by assumption)))⟩
  subst he
  have HD2 := Lib.hid (show lineI ⟨mw, mh, pix⟩ s ⟨lo, hi'⟩ need = _ from HD.out.trans (if_pos rfl))
  by_cases n1 : need < 0
  · have HI := Lib.hid (show lineI ⟨mw, mh, pix⟩ s ⟨lo, hi'⟩ need = ([], 2) by rw [HD2.out, if_neg (by omega)])
    go_enter Try.func9, Try.ntmps9
    go_wp2_with (go_at_call 16; (with_reducible refine (K1.out _ (by repeat (first | exact Ext.refl _ | assumption | refine Ext.alloc ?_ _ | refine Ext.drewN ?_ _ | refine ext_grow ?_ _ _ | refine Ext.trans ?_ (by assumption)))).mono ?_); rintro E w1 ⟨v1, rfl, h0, h1⟩; obtain ⟨⟨c0, c1, c2⟩, -⟩ := run_3 (h1.blk (heap_alloc2_old w _ _)); obtain ⟨⟨d0, d1⟩, -⟩ := run_2 (h1.blk (heap_alloc2_new w _ _)))
    go_ret2
    exact ⟨by rw [HI.out]; rfl, (by repeat (first | exact Ext.refl _ | assumption | refine Ext.alloc ?_ _ | refine Ext.drewN ?_ _ | refine ext_grow ?_ _ _ | refine Ext.trans ?_ (by assumption)))⟩
  by_cases n2 : 15 < need
  · have HI := Lib.hid (show lineI ⟨mw, mh, pix⟩ s ⟨lo, hi'⟩ need = ([], 2) by rw [HD2.out, if_neg (by omega)])
    go_enter Try.func9, Try.ntmps9
    go_wp2_with (go_at_call 16; (with_reducible refine (K1.out _ (by repeat (first | exact Ext.refl _ | assumption | refine Ext.alloc ?_ _ | refine Ext.drewN ?_ _ | refine ext_grow ?_ _ _ | refine Ext.trans ?_ (by assumption)))).mono ?_); rintro E w1 ⟨v1, rfl, h0, h1⟩; obtain ⟨⟨c0, c1, c2⟩, -⟩ := run_3 (h1.blk (heap_alloc2_old w _ _)); obtain ⟨⟨d0, d1⟩, -⟩ := run_2 (h1.blk (heap_alloc2_new w _ _)))
    go_ret2
    exact ⟨by rw [HI.out]; rfl, (by repeat (first | exact Ext.refl _ | assumption | refine Ext.alloc ?_ _ | refine Ext.drewN ?_ _ | refine ext_grow ?_ _ _ | refine Ext.trans ?_ (by assumption)))⟩
  obtain ⟨W, H, S, hS, rfl, hmw, hmh, hW, hH, hlen, hdiv⟩ := HM.out rfl
  subst hmw hmh
  clear HM HD
  obtain ⟨nd, rfl⟩ := Int.eq_ofNat_of_zero_le (show 0 ≤ need by omega)
  have hnd : nd ≤ 15 := by omega
  have q1 : ((W * S : Nat) : Int) / (S : Int) = W := by rw [Int.natCast_mul]; exact Int.mul_ediv_cancel _ (by omega)
  have HD3 := Lib.hid (show lineI ⟨((W * S : Nat) : Int), ((H * S : Nat) : Int), pix⟩ (S : Int) ⟨lo, hi'⟩ (nd : Int) = if H = 5 ∧ W % 4 = 3 then (textR ms W nd ((W + 1) / 4), 0) else ([], 21) by
    have a1 : (((H * S : Nat) : Int) = 5 * (S : Int) ∧ (W : Int) % 4 = 3) ↔ (H = 5 ∧ W % 4 = 3) := by
      constructor
      · rintro ⟨a, b⟩
        exact ⟨Nat.eq_of_mul_eq_mul_right (show 0 < S by omega) (by rw [Int.natCast_mul] at a; exact_mod_cast a), by omega⟩
      · rintro ⟨rfl, b⟩
        exact ⟨by rw [Int.natCast_mul]; rfl, by omega⟩
    rw [HD2.out, if_pos ⟨by omega, by omega⟩]
    rw [q1, Int.toNat_natCast, Int.toNat_natCast]
    by_cases a2 : H = 5 ∧ W % 4 = 3
    · rw [if_pos a2, if_pos (a1.2 a2)]
    · rw [if_neg a2, if_neg (fun h => a2 (a1.1 h))])
  have q3 : ((W * S : Nat) : Int).tdiv (S : Int) = W := by rw [← q1]; exact Int.tdiv_eq_ediv_of_nonneg (by omega)
  have hwb : W * S ≤ 32 := Nat.mul_le_mul hW.2 hS.2
  have hhb : H * S ≤ 32 := Nat.mul_le_mul hH.2 hS.2
  have t1 : (W : Int).tmod 4 = ((W % 4 : Nat) : Int) := by rw [Int.tmod_eq_emod_of_nonneg (by omega)]; exact (Int.natCast_emod W 4).symm
  have HH5 : Hid (H * S = 5 * S ↔ H = 5) := Lib.hid ⟨fun h => Nat.eq_of_mul_eq_mul_right (show 0 < S by omega) h, fun h => by rw [h]⟩
  obtain ⟨ww, hww⟩ : ∃ ww, W * S = ww := ⟨_, rfl⟩
  obtain ⟨hn, hhn⟩ : ∃ hn, H * S = hn := ⟨_, rfl⟩
  rw [hww] at q1 q3 hwb HD3
  rw [hhn] at hhb HD3 HH5
  simp only [hww, hhn] at K1 ⊢
  obtain ⟨r4, hr4⟩ : ∃ r, W % 4 = r := ⟨_, rfl⟩
  rw [hr4] at t1 HD3
  have HR4 := Lib.hid hr4
  have HLN := Lib.hid hlen
  clear HD2 hr4 hww hhn hdiv hlen q1
  by_cases h5 : H = 5
  case neg =>
    have q : ((hn : Int) != 5 * (S : Int)) = true := by rw [bne_iff_ne]; intro h; exact h5 (HH5.out.1 (by omega))
    have HI := Lib.hid (show lineI ⟨(ww : Int), (hn : Int), pix⟩ (S : Int) ⟨lo, hi'⟩ (nd : Int) = ([], 21) by rw [HD3.out, if_neg (fun h => h5 h.1)])
    clear h5
    go_enter Try.func9, Try.ntmps9
    go_wp2_with (go_at_call 16; (with_reducible refine (K1.out _ (by repeat (first | exact Ext.refl _ | assumption | refine Ext.alloc ?_ _ | refine Ext.drewN ?_ _ | refine ext_grow ?_ _ _ | refine Ext.trans ?_ (by assumption)))).mono ?_); rintro E w1 ⟨v1, rfl, h0, h1⟩; obtain ⟨⟨c0, c1, c2⟩, -⟩ := run_3 (h1.blk (heap_alloc2_old w _ _)); obtain ⟨⟨d0, d1⟩, -⟩ := run_2 (h1.blk (heap_alloc2_new w _ _)))
    go_ret2
    exact ⟨by rw [HI.out]; rfl, (by repeat (first | exact Ext.refl _ | assumption | refine Ext.alloc ?_ _ | refine Ext.drewN ?_ _ | refine ext_grow ?_ _ _ | refine Ext.trans ?_ (by assumption)))⟩
  have q5 : ((hn : Int) != 5 * (S : Int)) = false := by rw [bne_eq_false_iff_eq]; have := HH5.out.2 h5; omega
  by_cases h3 : r4 = 3
  case neg =>
    have q : ((r4 : Int) != 3) = true := by rw [bne_iff_ne]; omega
    have HI := Lib.hid (show lineI ⟨(ww : Int), (hn : Int), pix⟩ (S : Int) ⟨lo, hi'⟩ (nd : Int) = ([], 21) by rw [HD3.out, if_neg (fun h => h3 h.2)])
    clear h3 h5
    go_enter Try.func9, Try.ntmps9
    go_wp2_with (go_at_call 16; (with_reducible refine (K1.out _ (by repeat (first | exact Ext.refl _ | assumption | refine Ext.alloc ?_ _ | refine Ext.drewN ?_ _ | refine ext_grow ?_ _ _ | refine Ext.trans ?_ (by assumption)))).mono ?_); rintro E w1 ⟨v1, rfl, h0, h1⟩; obtain ⟨⟨c0, c1, c2⟩, -⟩ := run_3 (h1.blk (heap_alloc2_old w _ _)); obtain ⟨⟨d0, d1⟩, -⟩ := run_2 (h1.blk (heap_alloc2_new w _ _)))
    go_ret2
    exact ⟨by rw [HI.out]; rfl, (by repeat (first | exact Ext.refl _ | assumption | refine Ext.alloc ?_ _ | refine Ext.drewN ?_ _ | refine ext_grow ?_ _ _ | refine Ext.trans ?_ (by assumption)))⟩
  subst h3
  have HI := Lib.hid (show lineI ⟨(ww : Int), (hn : Int), pix⟩ (S : Int) ⟨lo, hi'⟩ (nd : Int) = (textR ms W nd ((W + 1) / 4), 0) by rw [HD3.out, if_pos ⟨h5, rfl⟩])
  obtain ⟨n, hn4⟩ : ∃ n, W + 1 = 4 * n := ⟨(W + 1) / 4, by have := HR4.out; omega⟩
  have hn0 : (W + 1) / 4 = n := by omega
  rw [hn0] at HI
  subst h5
  have HN := Lib.hid hn4
  have hn5 : n ≤ 4 := by omega
  clear HD3 hn0 hn4 HH5
  go_enter Try.func9, Try.ntmps9
  go_wp2_with (go_at_call 16; (with_reducible refine (K1.out _ (by repeat (first | exact Ext.refl _ | assumption | refine Ext.alloc ?_ _ | refine Ext.drewN ?_ _ | refine ext_grow ?_ _ _ | refine Ext.trans ?_ (by assumption)))).mono ?_); rintro E w1 ⟨v1, rfl, h0, h1⟩; obtain ⟨⟨c0, c1, c2⟩, -⟩ := run_3 (h1.blk (heap_alloc2_old w _ _)); obtain ⟨⟨d0, d1⟩, -⟩ := run_2 (h1.blk (heap_alloc2_new w _ _)))
  obtain ⟨bm, om, capm, rfl, hcm⟩ := h0.some HLN.out (by omega)
  have HC := Lib.hid hcm
  have hE1 : Ext w w1 := (by repeat (first | exact Ext.refl _ | assumption | refine Ext.alloc ?_ _ | refine Ext.drewN ?_ _ | refine ext_grow ?_ _ _ | refine Ext.trans ?_ (by assumption)))
  have hB0 := bld_new w1 52 5
  have HB0 := Lib.hid hB0
  clear hcm c0 c1 c2 d0 d1 hB0 h0
  go_loopw [14, 15, 16, 17, 18] (fun a _ _ _ _ wr => ∃ i : Nat, i ≤ n ∧ a = .int .i64 ((4 * i : Nat) : Int) ∧ Ext w1 wr ∧ Hid (Lib.IsBuilder 52 5 w1.heap.size w1.heap.size (bytesL (textR ms W nd i)) wr)) (fun a _ _ _ _ _ => 4 * n - (intOf a).toNat)
  case atStart => exact ⟨0, Nat.zero_le _, rfl, (Ext.refl w1).alloc _, HB0⟩
  case round =>
    clear HB0
    obtain ⟨i, hin, rfl, hE, hB⟩ := hrel
    have hNN := HN.out
    obtain ⟨at4, hat⟩ : ∃ a, 4 * i = a := ⟨_, rfl⟩
    rw [hat]
    have HAT := Lib.hid hat
    by_cases hi : i < n
    · have hab : at4 < W := by omega
      have hab2 : at4 + 3 ≤ W := by omega
      clear hat hNN
      obtain ⟨own, hown⟩ : ∃ own, ownR ms W i = own := ⟨_, rfl⟩
      have HOL : Hid (15 = own.length) := Lib.hid (by rw [← hown, ownR_length])
      have HOG : Hid (∀ k, k < 15 → own.getD k 0 = ms.getD (k / 3 * W + at4 + k % 3) 0) := Lib.hid (fun k hk => by rw [← hown, ownR_get hk, HAT.out])
      have HO := Lib.hid hown
      clear hown
      go_wp2_with (at_make; refine wpList_make_full _ rfl _ _ 22 rfl w1.heap.size 5 i1 (.int .u8 0) 1 Try.underlying22 ki kz0 kz1 .i64 .i64 _ _ 15 rfl rfl rfl rfl (by rw [kz2]; omega) (by unfold maxLen; omega) hE.size ?_; intro w2 ho2 hg2)
      rw [made_zero own] at ho2
      have hG2 : Ext wr w2 := ext_of_grownNone hg2
      have HO2 := Lib.hid ho2
      obtain ⟨W0, hW0⟩ : ∃ W0, W0 = wr := ⟨_, rfl⟩
      subst hW0
      obtain ⟨g, hg⟩ : ∃ g, W0.heap.size = g := ⟨_, rfl⟩
      have HGB := Lib.hid hg
      rw [hg] at HO2 ⊢
      clear ho2 hg2 hg
      go_loopw [59, 16] (fun k _ wi => ∃ j : Nat, j ≤ 15 ∧ k = .int .i64 (j : Int) ∧ Ext W0 wi ∧ Hid (wi.ownsRow w1.heap.size 5 1 (.slice (some ⟨g, 0, none⟩) 15 15) 15 (rowK own 15 j))) (fun k _ _ => 15 - (intOf k).toNat)
      case atStart => exact ⟨0, Nat.zero_le _, rfl, hG2, HO2⟩
      case round =>
        clear HO2 hG2
        obtain ⟨j, hj, rfl, hEi, hO⟩ := hrel
        by_cases hj15 : j < 15
        · have ha : j / 3 ≤ 4 := by omega
          have hd3 : j % 3 ≤ 2 := by omega
          have HPL : Hid (j / 3 * W + at4 + j % 3 < W * 5) := Lib.hid (by
            have := Nat.mul_le_mul_right W ha
            omega)
          have r0 : wr.cell? ⟨g, j, none⟩ = some (.int .u8 0) := by rw [hO.out.cellAt j (by omega)]; exact rowK_get hj15 HOL.out
          have r1 := hO.out.frozenAt j
          have c0 := (hE.trans hEi).get (HC.out (j / 3 * W + at4 + j % 3) HPL.out)
          rw [← HOG.out j hj15] at c0
          have HV := Lib.hid (rowK_set (l := own) (n := 15) hj15 HOL.out)
          obtain ⟨x, hx⟩ : ∃ x, own.getD j 0 = x := ⟨_, rfl⟩
          rw [hx] at c0 HV
          have t2 : (j : Int).tdiv 3 = ((j / 3 : Nat) : Int) := by rw [Int.tdiv_eq_ediv_of_nonneg (by omega)]; rfl
          have t3 : (j : Int).tmod 3 = ((j % 3 : Nat) : Int) := by rw [Int.tmod_eq_emod_of_nonneg (by omega)]; rfl
          obtain ⟨a, haa⟩ : ∃ a, j / 3 = a := ⟨_, rfl⟩
          obtain ⟨d, hdd⟩ : ∃ d, j % 3 = d := ⟨_, rfl⟩
          rw [haa] at t2 ha c0 HPL
          rw [hdd] at t3 hd3 c0 HPL
          obtain ⟨p, hp⟩ : ∃ p, a * W = p := ⟨_, rfl⟩
          rw [hp] at c0 HPL
          have t4 : (a : Int) * (W : Int) = (p : Int) := by rw [← hp]; exact (Int.natCast_mul a W).symm
          obtain ⟨u, hu⟩ : ∃ u, p + at4 + d = u := ⟨_, rfl⟩
          have t5 : (p : Int) + (at4 : Int) + (d : Int) = (u : Int) := by omega
          have hpb : p ≤ 64 := by rw [← hp]; exact Nat.mul_le_mul ha hW.2
          have hub : u < W * 5 := by rw [← hu]; exact HPL.out
          rw [hu] at c0
          have HX := Lib.hid (And.intro hx (And.intro haa (And.intro hdd (And.intro hp hu))))
          clear hx haa hdd hp hu HPL
          go_wp2
          exact ⟨⟨j + 1, by omega, by go_num, hEi.setCell (p := ⟨g, j, none⟩) (by show W0.heap.size ≤ g; have := HGB.out; omega) _, Lib.hid (by
            have h := (hO.out.stored j (.int .u8 (x : Int))).1
            rw [HV.out] at h
            exact h)⟩, by simp [intOf]; omega⟩
        · obtain rfl : j = 15 := by omega
          have ho := hO.out
          have HF := rowK_full (l := own)
          rw [← HOL.out] at HF
          rw [HF] at ho
          have hbo : BytesAt wr (.slice (some ⟨g, 0, none⟩) 15 15) own := by
            refine BytesAt.of_owns (base := w1.heap.size) (e := 5) ?_
            rw [← HOL.out]
            exact ho
          have K2 := Lib.hid (c_nearest _ own wr hbo HOL.out.symm)
          have HBx := Lib.hid (bld_ext hB.out hEi)
          have HT := Lib.hid (textR_succ ms W nd i)
          have hnb := nearest_bd own
          have HCH := Lib.hid (show charR nd own = if nd ≤ (nearestR own).2 then 48 + (nearestR own).1 else 63 from rfl)
          obtain ⟨nr, hnr⟩ : ∃ nr, nearestR own = nr := ⟨_, rfl⟩
          rw [hnr] at K2 hnb HCH
          obtain ⟨dg, mg⟩ := nr
          dsimp only at K2 hnb HCH
          have HNR := Lib.hid hnr
          have hEo := hE.trans hEi
          have hsz := hEo.size
          have HWB : Hid (∀ (ch : Nat) (w' : World), Ext wr w' → Calls Try.prog 17 #[.pointer (some ⟨w1.heap.size, 0, none⟩), .int .u8 (ch : Int)] w' fun e w'' => e = .returned .nilIface ∧ (Lib.BuilderAt 52 5 w1.heap.size w1.heap.size (.pointer (some ⟨w1.heap.size, 0, none⟩)) (bytesL (textR ms W nd i) ++ [.int .u8 (ch : Int)]) w'' ∧ Below w1.heap.size w' w'')) :=
            Lib.hid (fun ch w' h => c_WriteByte _ _ _ _ w' (bld_ext HBx.out h) (by rw [bytesL_length, textR_length]; omega) (Nat.le_trans hsz h.size))
          clear hO ho HF hbo hnr
          by_cases hm : nd ≤ mg
          · have qm : (nd : Int) ≤ (mg : Int) := by omega
            have HCV := Lib.hid (show charR nd own = 48 + dg by rw [HCH.out, if_pos hm])
            have KW := Lib.hid (HWB.out (48 + dg))
            clear hm HWB
            have q7 : ((48 + dg : Nat) : Int) = 48 + (dg : Int) := by omega
            rw [q7] at KW
            go_wp2_with (first
              | (go_at_call 14; (with_reducible refine K2.out.mono ?_); rintro E w3 ⟨rfl, h3⟩)
              | (go_at_call 17; (with_reducible refine (KW.out _ h3).mono ?_); rintro E w4 ⟨rfl, h4, h5⟩))
            exact ⟨⟨i + 1, by omega, congrArg (Value.int .i64) (by have h9 := HAT.out; omega), (hEo.trans h3).trans_below h5, Lib.hid (by
              rw [HT.out, HO.out, HCV.out]
              have h : Lib.IsBuilder 52 5 w1.heap.size w1.heap.size _ _ := .inr h4
              simpa [bytesL] using h)⟩, by have h9 := HAT.out; simp [intOf]; omega⟩
          · have qm : ¬ (nd : Int) ≤ (mg : Int) := by omega
            have HCV := Lib.hid (show charR nd own = 63 by rw [HCH.out, if_neg hm])
            have KW := Lib.hid (HWB.out 63)
            have q7 : ((63 : Nat) : Int) = 63 := rfl
            rw [q7] at KW
            clear hm HWB q7
            go_wp2_with (first
              | (go_at_call 14; (with_reducible refine K2.out.mono ?_); rintro E w3 ⟨rfl, h3⟩)
              | (go_at_call 17; (with_reducible refine (KW.out _ h3).mono ?_); rintro E w4 ⟨rfl, h4, h5⟩))
            exact ⟨⟨i + 1, by omega, congrArg (Value.int .i64) (by have h9 := HAT.out; omega), (hEo.trans h3).trans_below h5, Lib.hid (by
              rw [HT.out, HO.out, HCV.out]
              have h : Lib.IsBuilder 52 5 w1.heap.size w1.heap.size _ _ := .inr h4
              simpa [bytesL] using h)⟩, by have h9 := HAT.out; simp [intOf]; omega⟩
    · obtain rfl : i = n := by omega
      have hab : ¬ at4 < W := by omega
      clear hat hNN
      have KS := Lib.hid (fun (w' : World) (h : Ext wr w') => Try.Builder_String_any w1.heap.size w1.heap.size ((textR ms W nd i).map UInt8.ofNat) w' (byteCells_of (textR_lt ms W nd i) ▸ bld_ext hB.out h) (Nat.le_trans hE.size h.size))
      go_wp2_with (go_at_call 18; (with_reducible refine (KS.out _ (Ext.refl _)).mono ?_); rintro E w4 ⟨rfl, h5⟩)
      go_ret2
      exact ⟨by rw [HI.out]; rfl, hE1.trans (hE.trans_below h5)⟩
end Go.Proofs.Ytlnofbdhamingaa
