/- A word that is spoiled: the law's. -/
import Derived.Test.YtlnofbdhamingaaDoorFitPlain
import Derived.Test.YtlnofbdhamingaaDoorTail
import Derived.Test.YtlnofbdhamingaaDoorGRead
set_option linter.unusedVariables false
set_option linter.unusedSimpArgs false
namespace Go.Proofs.YtlnofbdhamingaaDoor
open Go.RowKit Go.Sort

theorem xor_at {a b : Nat} (ha : a < 16) (hb : b < 16) : bits BinOp.xor IntKind.u8 (a : Int) (b : Int) = ((a ^^^ b : Nat) : Int) := u8_xor_nat a b (by omega) (by omega)
theorem results_tmp4 {fn : Func} {t u v x : Tmp} (h : fn.results = #[.tmp t, .tmp u, .tmp v, .tmp x]) (tmps : Array Value) (P : Program) (w : World) :
    (results fn tmps).run P w = .ok (.tuple #[tmps[t]?.getD undef, tmps[u]?.getD undef, tmps[v]?.getD undef, tmps[x]?.getD undef]) w := by
  unfold results; rw [h]; simp
theorem SlAt.of_owns' {w : World} {base e n m : Nat} {v : Value} {cs : List Value} (h : w.ownsRow base e 1 v n cs) (hm : m = n) : SlAt w 1 v m cs := by subst hm; exact SlAt.of_owns h
set_option maxRecDepth 100000 in
set_option maxHeartbeats 8000000 in
theorem l_spoiled (v vc : Value) (wd ch : List Nat) (w : World) (hv : BytesAt w v wd) (hl : wd.length = 15) (hs : Syms wd) (hc : BytesAt w vc ch) (hcl : ch.length ≤ maxLen) :
    Calls Tryd.prog 40 #[v, vc] w fun e w' => ∃ g1 c1 g2 c2, e = .returned (.tuple #[.slice (some ⟨g1, 0, none⟩) 15 c1, .slice (some ⟨g2, 0, none⟩) 15 c2, .int .i64 ((wrongK ch 15 : Nat) : Int), .int .i64 ((lostK ch 15 : Nat) : Int)]) ∧
      BytesAt w' (.slice (some ⟨g1, 0, none⟩) 15 c1) (outK wd ch 15) ∧ BoolsAt w' (.slice (some ⟨g2, 0, none⟩) 15 c2) (erK ch 15 15) ∧ Ext w w' := by
  obtain ⟨i0, hi, hz0, hz1, hz2⟩ := info_parts3 info_byte
  obtain ⟨i4, ci, cz0, cz1, cz2⟩ := info_parts3 info_bool
  have HV := Lib.hid hv
  have HL := Lib.hid hl
  have HS := Lib.hid hs
  have HCL := Lib.hid hcl
  obtain ⟨vo, vcap, rfl, -, -⟩ := hv.form
  obtain ⟨co, ccap, rfl, -, HC0⟩ := hc.form
  have HC := Lib.hid HC0
  have HO0 := Lib.hid (outK_zero wd ch)
  have HE0 := Lib.hid (erK_zero ch 15)
  rw [hl] at HV ⊢
  clear hv hc hl hs hcl HC0
  go_enter Tryd.func40, Tryd.ntmps40
  go_wp2_with (first
    | (at_builtin; refine wpList_append_sl rfl _ _ 22 rfl w.heap.size 5 i0 (.int .u8 0) 1 1 Tryd.underlying22 hi hz0 hz1 hz2 rfl (by omega) (.slice (some ⟨w.heap.size, 0, none⟩) 0 0) 0 [] rfl (owns_lit w [] 5 0 1 _ (Nat.le_refl _) (by unfold maxLen; omega) rfl) _ 15 (bytesL wd) rfl (by have h9 := HV.out.ext ((Ext.refl w).alloc (.cells #[] 5)); unfold BytesAt at h9; rw [HL.out] at h9; exact h9) (bytes_oneCell' wd) (by unfold maxLen; omega) (by omega) (by simp) ?_; intro v1 w1 ho1 hg1; rw [Nat.zero_add, List.nil_append] at ho1; have h1 : Ext w w1 := ((Ext.refl w).alloc _).grown hg1 (fun k hk => (by simp [Value.ownBlock] at hk; omega)); obtain ⟨g1, c1, rfl, hb1, -⟩ := owns_some ho1 (by decide); have hz1' := (ho1.lt g1 rfl).2)
    | (at_make; refine wpList_make_full _ rfl _ _ 36 rfl w.heap.size 4 i4 (.bool false) 1 Tryd.underlying36 ci cz0 cz1 .i64 .i64 _ _ 15 rfl rfl rfl rfl (by rw [cz2]; omega) (by unfold maxLen; omega) h1.size ?_; intro w2 ho2 hg2; rw [made_bools] at ho2; have h2 : Ext w1 w2 := ext_of_grownNone hg2))
  have O1 := Lib.hid (show w2.ownsRow w.heap.size 5 1 (.slice (some ⟨g1, 0, none⟩) 15 c1) 15 (bytesL (outK wd ch 0)) by rw [HO0.out]; exact owns_ext ho1 h2)
  have O2 := Lib.hid (show w2.ownsRow w.heap.size 4 1 (.slice (some ⟨w1.heap.size, 0, none⟩) 15 15) 15 (boolsL (erK ch 15 0)) by rw [HE0.out]; exact ho2)
  have E2 := Lib.hid (h1.trans h2)
  obtain ⟨g2, hg2e⟩ : ∃ g, w1.heap.size = g := ⟨_, rfl⟩
  have hb2 : w.heap.size ≤ g2 := by rw [← hg2e]; exact h1.size
  have hne : g1 < g2 := by omega
  rw [hg2e] at O2 ⊢
  clear hg2e ho1 ho2 hg1 hg2 h1 h2 HV HO0 HE0 hz1'
  go_loopw [10, 11, 12] (fun nn gg ii wi => ∃ i : Nat, i ≤ 15 ∧ ii = .int .i64 (i : Int) ∧ Ext w wi ∧ Hid (wi.ownsRow w.heap.size 5 1 (.slice (some ⟨g1, 0, none⟩) 15 c1) 15 (bytesL (outK wd ch i))) ∧ Hid (wi.ownsRow w.heap.size 4 1 (.slice (some ⟨g2, 0, none⟩) 15 15) 15 (boolsL (erK ch 15 i))) ∧ nn = .int .i64 ((wrongK ch i : Nat) : Int) ∧ gg = .int .i64 ((lostK ch i : Nat) : Int)) (fun _ _ ii _ => 15 - (intOf ii).toNat)
  case atStart => exact ⟨0, Nat.zero_le _, rfl, E2.out, O1, O2, rfl, rfl⟩
  case round =>
    clear O1 O2
    obtain ⟨i, hi, rfl, hE, hO, hP, rfl, rfl⟩ := hrel
    by_cases hi15 : i < 15
    · have p1 : decide ((i : Int) < 15) = true := decide_eq_true (by omega)
      by_cases hil : i < ch.length
      · have p2 : decide ((i : Int) < (ch.length : Int)) = true := decide_eq_true (by omega)
        have p3 : (i : Int) < (ch.length : Int) := by omega
        obtain ⟨cb, coo, rfl, c0'⟩ := HC.out i hil
        have c0 := hE.get c0'
        have hw := syms_get HS.out i
        have r0 : wr.cell? ⟨g1, i, none⟩ = some (.int .u8 ((wd.getD i 0 : Nat) : Int)) := by
          rw [hO.out.cellAt i (by omega), bytesL_get (by rw [outK_len, HL.out]; omega), outK_get (by rw [HL.out]; omega), if_neg (by omega)]
        have r1 := hO.out.frozenAt i
        have HSet := Lib.hid (outK_set (w := wd) (ch := ch) (n := i) (by rw [HL.out]; omega))
        have HYes := Lib.hid (fun h => erK_yes (ch := ch) (l := 15) (n := i) hi15 h)
        have HNo := Lib.hid (fun h => erK_no (ch := ch) (l := 15) (n := i) h)
        have HW := Lib.hid (wrongK_succ ch i)
        have HG := Lib.hid (lostK_succ ch i)
        have hle := wrong_lost_le ch i
        obtain ⟨y, ry⟩ : ∃ y, wr.cell? ⟨g2, i, none⟩ = some (.bool y) := ⟨_, by rw [hP.out.cellAt i (by omega), boolsL_get (by rw [erK_len]; omega)]⟩
        have ry1 := hP.out.frozenAt i
        obtain ⟨x, hx⟩ : ∃ x, ch.getD i 0 = x := ⟨_, rfl⟩
        obtain ⟨o, ho⟩ : ∃ x, wd.getD i 0 = x := ⟨_, rfl⟩
        obtain ⟨n, hn⟩ : ∃ n, wrongK ch i = n := ⟨_, rfl⟩
        obtain ⟨m, hm⟩ : ∃ n, lostK ch i = n := ⟨_, rfl⟩
        rw [hx] at c0 c0' HSet HYes HNo HW HG
        rw [ho] at r0 hw HSet
        rw [hn] at HW hle ⊢
        rw [hm] at HG hle ⊢
        have m16 : (x : Int).tmod 16 = ((x % 16 : Nat) : Int) := rfl
        have d16 : (x : Int).tdiv 16 = ((x / 16 : Nat) : Int) := rfl
        have d2 : ((x / 16 : Nat) : Int) % 2 = ((x / 16 % 2 : Nat) : Int) := rfl
        have ha := Nat.mod_lt x (show 0 < 16 by omega)
        have hq := Nat.mod_lt (x / 16) (show 0 < 2 by omega)
        obtain ⟨a, haa⟩ : ∃ a, x % 16 = a := ⟨_, rfl⟩
        obtain ⟨q, hqq⟩ : ∃ q, x / 16 = q := ⟨_, rfl⟩
        rw [hqq] at d16 d2 hq HYes HNo HW HG
        obtain ⟨b, hbb⟩ : ∃ b, q % 2 = b := ⟨_, rfl⟩
        rw [haa] at m16 ha HSet HW
        rw [hbb] at d2 hq HYes HNo HW HG
        have X1 := xor_at hw ha
        obtain ⟨z, hz⟩ : ∃ z, o ^^^ a = z := ⟨_, rfl⟩
        rw [hz] at X1 HSet
        have HX := Lib.hid (And.intro hx (And.intro ho (And.intro hn (And.intro hm (And.intro haa (And.intro hqq (And.intro hbb hz)))))))
        clear hx ho hn hm haa hqq hbb hz
        go_wp2
        refine RG.region_tail (aq := ?aqn) 11 (by kernel_rfl) (by kernel_rfl) (by kernel_rfl) (by kernel_rfl) ?_ ?_
        rotate_left
        · intro wq hEq
          have q0 := hEq.get c0
          have q3 := hEq.get r0
          have zq := hEq.size
          have z0 := World.block_lt_of_cell? _ _ q0
          have z3 := World.block_lt_of_cell? _ _ q3
          simp only at z0 z3
          simp only [List.take_succ_cons, List.take_zero]
          repeat (go_big_quiet_step (fail))
          refine wpQuiet_nil ?_
          exact rfl
        · intro wt hEt
          simp only [List.drop_succ_cons, List.drop_zero]
          have hOt := Lib.hid (owns_ext hO.out hEt)
          have hPt := Lib.hid (owns_ext hP.out hEt)
          have hEw := Lib.hid (hE.trans hEt)
          have s0 := hEt.get r0
          have s1 := hOt.out.frozenAt i
          have sy := hEt.get ry
          have sy1 := hPt.out.frozenAt i
          have sc := hEt.get c0
          clear hEt c0 r0 ry r1 ry1 hO hP hE sc
          have hb9 : w.heap.size ≤ g1 := hb1
          have hO9 := Lib.hid (show (wt.setCell ⟨g1, i, none⟩ (.int .u8 (z : Int))).ownsRow w.heap.size 5 1 (.slice (some ⟨g1, 0, none⟩) 15 c1) 15 (bytesL (outK wd ch (i + 1))) by
            have h := (hOt.out.stored i (.int .u8 (z : Int))).1
            rw [bytesL_set, HSet.out] at h
            exact h)
          have hP9 := Lib.hid (show (wt.setCell ⟨g1, i, none⟩ (.int .u8 (z : Int))).ownsRow w.heap.size 4 1 (.slice (some ⟨g2, 0, none⟩) 15 15) 15 (boolsL (erK ch 15 i)) from own_gb hPt.out (gb_set _ _ _ _) (fun k hk h9 => by
            have e1 : g2 = k := Option.some.inj hk
            have e2 : k = g1 := Option.some.inj h9
            omega))
          have hE9 := Lib.hid (show Ext w (wt.setCell ⟨g1, i, none⟩ (.int .u8 (z : Int))) from hEw.out.setCell (p := ⟨g1, i, none⟩) hb9 _)
          go_upto_region 8 with fail
          obtain ⟨W9, hW9⟩ : ∃ W, wt.setCell ⟨g1, i, none⟩ (.int .u8 (z : Int)) = W := ⟨_, rfl⟩
          rw [hW9] at hO9 hP9 hE9 ⊢
          have c9 := hE9.out.get c0'
          obtain ⟨y9, ry9⟩ : ∃ y, W9.cell? ⟨g2, i, none⟩ = some (.bool y) := ⟨_, by rw [hP9.out.cellAt i (by omega), boolsL_get (by rw [erK_len]; omega)]⟩
          have rf9 := hP9.out.frozenAt i
          clear hW9 s0 s1 sy sy1
          by_cases hb1' : b = 1
          · have k1 : ((b : Int) == 1) = true := by rw [hb1']; rfl
            have HE9 := Lib.hid (HYes.out hb1')
            have HN := Lib.hid (show wrongK ch (i + 1) = n by rw [HW.out, if_neg (fun h => h.1 hb1')])
            have HM := Lib.hid (show lostK ch (i + 1) = m + 1 by rw [HG.out, if_pos hb1'])
            clear hb1'
            go_wp2
            exact ⟨⟨i + 1, by omega, by go_num, hE9.out.setCell (p := ⟨g2, i, none⟩) hb2 _, Lib.hid (own_gb hO9.out (gb_set _ _ _ _) (fun k hk h9 => by
              have e1 : g1 = k := Option.some.inj hk
              have e2 : k = g2 := Option.some.inj h9
              omega)), Lib.hid (by
              have h := (hP9.out.stored i (.bool true)).1
              rw [boolsL_set, HE9.out] at h
              exact h), by rw [HN.out], by rw [HM.out]; go_num⟩, by simp [intOf]; omega⟩
          · have k1 : ((b : Int) == 1) = false := by simp; omega
            have HE9 := Lib.hid (HNo.out hb1')
            have HM := Lib.hid (show lostK ch (i + 1) = m by rw [HG.out, if_neg hb1'])
            by_cases ha0 : a = 0
            · have k2 : ((a : Int) != 0) = false := by rw [ha0]; rfl
              have HN := Lib.hid (show wrongK ch (i + 1) = n by rw [HW.out, if_neg (fun h => h.2 ha0)])
              clear hb1' ha0
              go_wp2
              exact ⟨⟨i + 1, by omega, by go_num, hE9.out, hO9, Lib.hid (by rw [HE9.out]; exact hP9.out), by rw [HN.out], by rw [HM.out]⟩, by simp [intOf]; omega⟩
            · have k2 : ((a : Int) != 0) = true := by rw [bne_iff_ne]; omega
              have HN := Lib.hid (show wrongK ch (i + 1) = n + 1 by rw [HW.out, if_pos ⟨hb1', ha0⟩])
              clear hb1' ha0
              go_wp2
              exact ⟨⟨i + 1, by omega, by go_num, hE9.out, hO9, Lib.hid (by rw [HE9.out]; exact hP9.out), by rw [HN.out]; go_num, by rw [HM.out]⟩, by simp [intOf]; omega⟩
      · have p2 : decide ((i : Int) < (ch.length : Int)) = false := decide_eq_false (by omega)
        obtain ⟨f1, f2, f3, f4⟩ := spoil_end (w := wd) (ch := ch) (n := i) (by omega) (by omega) HL.out
        rw [f3, f4]
        rw [f1] at hO
        rw [f2] at hP
        clear f1 f2 f3 f4
        go_wp2
        refine bodyPost_ret (results_tmp4 rfl _ _ _) rfl ?_
        exact ⟨g1, c1, g2, 15, rfl, SlAt.of_owns' hO.out (by rw [outK_len, HL.out]), SlAt.of_owns' hP.out (by rw [erK_len]), hE⟩
    · have p1 : decide ((i : Int) < 15) = false := decide_eq_false (by omega)
      have ei : i = 15 := by omega
      rw [ei] at hO hP ⊢
      clear ei
      go_wp2
      refine bodyPost_ret (results_tmp4 rfl _ _ _) rfl ?_
      exact ⟨g1, c1, g2, 15, rfl, SlAt.of_owns' hO.out (by rw [outK_len, HL.out]), SlAt.of_owns' hP.out (by rw [erK_len]), hE⟩
end Go.Proofs.YtlnofbdhamingaaDoor
