/- The walk of 'BeltMatched'. -/
import Derived.Test.YtcbimfaneinpkaaAlive
import Derived.Test.YtcbimfaneinpkaaMatchLaws
set_option linter.unusedVariables false
set_option linter.unusedSimpArgs false
namespace Go.Proofs.Ytcbimfaneinpkaa
open Go.RowKit Go.Sort

/-- a slice of ints, its cells -/
theorem IntsAt.form {w : World} {v : Value} {l : List Int} (h : IntsAt w v l) :
    ∃ ao cap, v = .slice ao l.length cap ∧ cap ≤ maxLen ∧ ∀ j, j < l.length → ∃ b off, ao = some ⟨b, off, none⟩ ∧ w.cell? ⟨b, off + j, none⟩ = some (.int .i64 (l.getD j 0)) := by
  obtain ⟨h1, ao, cap, h2, h3, h4, h5, h6⟩ := h
  exact ⟨ao, cap, h2, h4, fun j hj => h6 j _ (ints_get hj)⟩
set_option maxRecDepth 100000 in
set_option maxHeartbeats 4000000 in
theorem w49 (x y : List Nat) (v1 v2 : Value) (w : World) (h1 : IntsAt w v1 (idx x)) (h2 : IntsAt w v2 (idx y)) (hxy : lexLt x y) (hl : x.length = y.length) (hb : x.length ≤ 100) :
    Calls Try.prog 49 #[v1, v2] w fun e w' => e = .returned (.bool true) ∧ Ext w w' := by
  obtain ⟨a1, c1, rfl, -, hc1⟩ := h1.form
  obtain ⟨a2, c2, rfl, -, hc2⟩ := h2.form
  have H1 := Lib.hid hc1
  have H2 := Lib.hid hc2
  have HX := Lib.hid hxy
  clear hc1 hc2 h1 h2 hxy
  rw [idx_length, idx_length]
  have HL := Lib.hid hl
  have hyl : (y.length : Int) = (y.length : Int) := rfl
  clear hyl
  have hyb : x.length ≤ y.length := by omega
  clear hl
  go_enter Try.func49, Try.ntmps49
  go_wp2
  go_loopw [8] (fun i wr => ∃ k : Nat, k ≤ x.length ∧ i = .int .i64 (k : Int) ∧ Ext w wr ∧ Hid (∀ j, j < k → x.getD j 0 = y.getD j 0)) (fun i _ => x.length - (intOf i).toNat)
  case atStart => exact ⟨0, by omega, rfl, Ext.refl _, Lib.hid (fun j hj => by omega)⟩
  case round =>
    obtain ⟨k, hk, rfl, hE, hS⟩ := hrel
    by_cases hkl : k < x.length
    · obtain ⟨b1, o1, rfl, x0⟩ := H1.out k (by rw [idx_length]; exact hkl)
      obtain ⟨b2, o2, rfl, y0⟩ := H2.out k (by rw [idx_length]; omega)
      rw [idx_get] at x0
      rw [idx_get] at y0
      have x0 := hE.get x0
      have y0 := hE.get y0
      have hcase : x.getD k 0 ≠ y.getD k 0 → x.getD k 0 < y.getD k 0 := by
        intro hne
        obtain ⟨i, hi, he, hlt⟩ := HX.out
        rcases Nat.lt_trichotomy i k with h | h | h
        · have := hS.out i h; omega
        · subst h; exact hlt
        · exact absurd (he k h) hne
      obtain ⟨p, hp⟩ : ∃ p, x.getD k 0 = p := ⟨_, rfl⟩
      obtain ⟨q, hq⟩ : ∃ q, y.getD k 0 = q := ⟨_, rfl⟩
      rw [hp, hq] at hcase
      rw [hp] at x0
      rw [hq] at y0
      have HP := Lib.hid (And.intro hp hq)
      clear hp hq
      have hky : k < y.length := by omega
      have hki : (k : Int) < (x.length : Int) := by omega
      have hkj : (k : Int) < (y.length : Int) := by omega
      by_cases hpq : p = q
      · have t1 : ((p : Int) != (q : Int)) = false := by simp [hpq]
        have HPQ := Lib.hid hpq
        clear hpq hcase
        go_wp2_with fail
        go_quiet (fail)
        go_wp2
        go_roundw
        case rel => exact ⟨k + 1, by omega, by go_num, hE.drewN _, Lib.hid (fun j hj => by
          rcases Nat.lt_or_ge j k with h | h
          · exact hS.out j h
          · obtain rfl : j = k := by omega
            rw [HP.out.1, HP.out.2]; exact HPQ.out)⟩
        case measure => simp [intOf]; omega
      · have hlt := hcase hpq
        have t1 : ((p : Int) != (q : Int)) = true := by simp; omega
        have t2 : decide ((p : Int) < (q : Int)) = true := decide_eq_true (by omega)
        have t3 : decide (p < q) = true := decide_eq_true hlt
        clear hpq hcase
        go_wp2_with fail
        go_quiet (fail)
        go_wp2_with fail
        go_quiet (fail)
        go_wp2
        go_ret
        exact ⟨by first | rfl | (congr 1; simp; omega), (hE.drewN _).drewN _⟩
    · exfalso
      obtain ⟨i, hi, he, hlt⟩ := HX.out
      have := hS.out i (by omega)
      omega
theorem rows_form {w : World} {v : Value} {n : Nat} {vs : List Value} (h : w.ownsRow 0 37 1 v n vs) (hl : vs.length = n) : ∃ ao cap, v = .slice ao n cap ∧ ∀ j, j < n → ∃ b off, ao = some ⟨b, off, none⟩ ∧ w.cell? ⟨b, off + j, none⟩ = some (vs.getD j undef) := by
  obtain ⟨-, ao, cap, e, -, -, -, hc⟩ := SlAt.of_owns h
  exact ⟨ao, cap, e, fun j hj => hc j _ (by rw [List.getD_eq_getElem?_getD, List.getElem?_eq_getElem (by omega)]; rfl)⟩
theorem matched_ok {b : Belt} {fi se : List Int} {l : List (List Nat)} (h : matched b fi se = (l, 0)) : b.ok ∧ Incr fi ∧ Incr se ∧ fi.length ≤ 10 ∧ se.length ≤ 10 ∧ l = choose b fi se se.length [] ∧ l ≠ [] := by
  unfold matched at h
  split at h
  · rename_i h1
    split at h
    · rename_i h2
      split at h
      · rename_i h3
        split at h
        · injection h with _ h; cases h
        · rename_i h4
          injection h with e _
          subst e
          exact ⟨h1, h3.1, h3.2, h2.1, h2.2, rfl, h4⟩
      · injection h with _ h; cases h
    · injection h with _ h; cases h
  · injection h with _ h; cases h
theorem matched_none {b : Belt} {fi se : List Int} {l : List (List Nat)} {e : Int} (h : matched b fi se = (l, e)) (he : e ≠ 0) : l = [] := by
  unfold matched at h
  split at h
  · split at h
    · split at h
      · split at h
        · injection h with e1 _; exact e1.symm
        · injection h with _ h; exact absurd h.symm he
      · injection h with e1 _; exact e1.symm
    · injection h with e1 _; exact e1.symm
  · injection h with e1 _; exact e1.symm
theorem matched_rows {b : Belt} {fi se : List Int} {l : List (List Nat)} (h : matched b fi se = (l, 0)) :
    (∀ k, k < l.length → (l.getD k []).length = se.length ∧ (∀ j, j < se.length → (l.getD k []).getD j 0 < fi.length) ∧ assigned b fi se (l.getD k [])) ∧ ∀ k, k + 1 < l.length → lexLt (l.getD k []) (l.getD (k + 1) []) := by
  obtain ⟨-, -, -, -, -, e, -⟩ := matched_ok h
  subst e
  refine ⟨fun k hk => ?_, fun k hk => ?_⟩
  · have hm : (choose b fi se se.length []).getD k [] ∈ choose b fi se se.length [] := by
      rw [List.getD_eq_getElem?_getD, List.getElem?_eq_getElem hk]; exact List.getElem_mem hk
    obtain ⟨a1, a2, a3, -⟩ := choose_sound b fi se se.length [] _ (fun j hj => by simp at hj) (fun m hm => by simp at hm) hm
    have a4 : ((choose b fi se se.length []).getD k []).length = se.length := by rw [a3]; simp
    exact ⟨a4, fun j hj => a2 j (by omega), a1⟩
  · have := List.pairwise_iff_getElem.1 (choose_sorted b fi se se.length []) k (k + 1) (by omega) hk (by omega)
    rw [List.getD_eq_getElem?_getD, List.getElem?_eq_getElem (show k < _ by omega), List.getD_eq_getElem?_getD, List.getElem?_eq_getElem hk]
    exact this
theorem matched_loose {b : Belt} {fi se : List Int} {l : List (List Nat)} (h : matched b fi se = (l, 0)) {s : Int} (hs : b.slip ≤ s) {m : List (List Nat)} {f : Int} (h2 : matched ⟨b.step, s, b.gate, b.length⟩ fi se = (m, f)) : f = 90 ∨ (f = 0 ∧ l.length ≤ m.length) := by
  obtain ⟨h1, i1, i2, l1, l2, e, hne⟩ := matched_ok h
  unfold matched at h2
  split at h2
  · rename_i hc
    have hle := choose_slip (b := b) (c := ⟨b.step, s, b.gate, b.length⟩) h1 rfl hs (fi := fi) i2 se.length [] (by simp)
    rw [if_pos ⟨l1, l2⟩, if_pos ⟨i1, i2⟩] at h2
    split at h2
    · rename_i h9
      rw [h9] at hle
      rw [← e] at hle
      simp at hle
      exact absurd hle hne
    · injection h2 with e1 e2
      right
      refine ⟨e2.symm, ?_⟩
      rw [← e1, e]; exact hle
  · injection h2 with _ e2
    exact .inl e2.symm
set_option maxRecDepth 100000 in
set_option maxHeartbeats 16000000 in
theorem w13 (b : Belt) (v1 : Value) (fi : List Int) (v2 : Value) (se : List Int) (slip : Int) (w : World) (h1 : IntsAt w v1 fi) (m1 : fi.length ≤ maxLen) (h2 : IntsAt w v2 se) (m2 : se.length ≤ maxLen) :
    Calls Try.prog 13 #[.agg #[.int .i64 b.step, .int .i64 b.slip, .int .i64 b.gate, .int .i64 b.length], v1, v2, .int .i64 slip] w fun e w' => e = .returned (.bool true) ∧ Ext w w' := by
  have hmx : maxLen = 9223372036854775807 := rfl
  rw [hmx] at m1 m2
  have H1 := Lib.hid h1
  have H2 := Lib.hid h2
  obtain ⟨a1, c1, rfl, -, hc1⟩ := h1.form
  obtain ⟨a2, c2, rfl, -, hc2⟩ := h2.form
  have HC1 := Lib.hid hc1
  have HC2 := Lib.hid hc2
  clear hc1 hc2 h1 h2
  have KA := Lib.hid c_alive
  by_cases hf10 : fi.length ≤ 10
  case neg =>
    have t1 : decide ((10 : Int) < (fi.length : Int)) = true := decide_eq_true (by omega)
    go_enter Try.func13, Try.ntmps13
    go_wp2_with (go_at_call 43; (with_reducible refine (KA.out _).mono ?_); rintro E w1 ⟨rfl, h1⟩; have E1 : Ext w w1 := ((Ext.refl _).alloc _).trans h1; have hB1 := Lib.hid (h1.blk (blk_at w _ rfl)); obtain ⟨⟨c0, c3, c4, c5⟩, f0, f3, f4, f5⟩ := run_4 hB1.out; have z1 : w.heap.size < w1.heap.size := World.block_lt_of_cell? _ _ c0)
    go_ret
    exact ⟨rfl, E1⟩
  have t1 : decide ((10 : Int) < (fi.length : Int)) = false := decide_eq_false (by omega)
  by_cases hs10 : se.length ≤ 10
  case neg =>
    have t2 : decide ((10 : Int) < (se.length : Int)) = true := decide_eq_true (by omega)
    go_enter Try.func13, Try.ntmps13
    go_wp2_with (go_at_call 43; (with_reducible refine (KA.out _).mono ?_); rintro E w1 ⟨rfl, h1⟩; have E1 : Ext w w1 := ((Ext.refl _).alloc _).trans h1; have hB1 := Lib.hid (h1.blk (blk_at w _ rfl)); obtain ⟨⟨c0, c3, c4, c5⟩, f0, f3, f4, f5⟩ := run_4 hB1.out; have z1 : w.heap.size < w1.heap.size := World.block_lt_of_cell? _ _ c0)
    go_ret
    exact ⟨rfl, E1⟩
  have t2 : decide ((10 : Int) < (se.length : Int)) = false := decide_eq_false (by omega)
  obtain ⟨r, hr⟩ : ∃ r, matched b fi se = r := ⟨_, rfl⟩
  obtain ⟨l, e⟩ := r
  have KM := Lib.hid (fun (w : World) (h1 : IntsAt w _ fi) (h2 : IntsAt w _ se) => (show Calls Try.prog 25 #[.agg #[.int .i64 b.step, .int .i64 b.slip, .int .i64 b.gate, .int .i64 b.length], .slice a1 fi.length c1, .slice a2 se.length c2] w (OwnMatch (l, e) w) from hr ▸ w25 b fi se _ _ w h1 h2 (by omega) (by omega)))
  by_cases he : e = 0
  case neg =>
    have t3 : (e != 0) = true := by simpa using he
    have hl0 := matched_none hr he
    subst hl0
    clear he hr
    go_enter Try.func13, Try.ntmps13
    go_wp2_with (first | (go_at_call 25; (with_reducible refine (KM.out _ (IntsAt.ext H1.out E1) (IntsAt.ext H2.out E1)).mono ?_); rintro E w2 ⟨v2, vs2, rfl, o2, ls2, h2⟩; obtain ⟨-, sa, sc, hv2, -⟩ := SlAt.of_owns o2; subst hv2; have O2 := Lib.hid o2; have LS := Lib.hid ls2; have E2 : Ext w w2 := E1.trans h2; have hB2 := Lib.hid (h2.blk hB1.out); clear o2 ls2 c0 c3 c4 c5 f0 f3 f4 f5; obtain ⟨⟨c0, c3, c4, c5⟩, f0, f3, f4, f5⟩ := run_4 hB2.out; have z2 : w.heap.size < w2.heap.size := World.block_lt_of_cell? _ _ c0) | (go_at_call 43; (with_reducible refine (KA.out _).mono ?_); rintro E w1 ⟨rfl, h1⟩; have E1 : Ext w w1 := ((Ext.refl _).alloc _).trans h1; have hB1 := Lib.hid (h1.blk (blk_at w _ rfl)); obtain ⟨⟨c0, c3, c4, c5⟩, f0, f3, f4, f5⟩ := run_4 hB1.out; have z1 : w.heap.size < w1.heap.size := World.block_lt_of_cell? _ _ c0))
    go_ret
    exact ⟨rfl, E2⟩
  subst he
  have HR := Lib.hid (matched_rows hr)
  obtain ⟨hbok, i1, i2, -⟩ := matched_ok hr
  have HI1 := Lib.hid i1
  have HI2 := Lib.hid i2
  have HB := Lib.hid hbok
  have hll : l.length ≤ 10000000000 := by
    obtain ⟨-, -, -, q1, q2, q3, -⟩ := matched_ok hr
    rw [q3]
    exact Nat.le_trans (choose_len b fi se se.length []) (pow_bd q1 q2)
  obtain ⟨r2, hr2⟩ : ∃ r, matched ⟨b.step, slip, b.gate, b.length⟩ fi se = r := ⟨_, rfl⟩
  obtain ⟨m, f⟩ := r2
  have KM2 := Lib.hid (fun (w : World) (h1 : IntsAt w _ fi) (h2 : IntsAt w _ se) => (show Calls Try.prog 25 #[.agg #[.int .i64 b.step, .int .i64 slip, .int .i64 b.gate, .int .i64 b.length], .slice a1 fi.length c1, .slice a2 se.length c2] w (OwnMatch (m, f) w) from hr2 ▸ w25 ⟨b.step, slip, b.gate, b.length⟩ fi se _ _ w h1 h2 (by omega) (by omega)))
  have HLO := Lib.hid (fun hs => matched_loose hr (s := slip) hs hr2)
  clear hr hr2 i1 i2 hbok
  go_enter Try.func13, Try.ntmps13
  go_wp2_with (first | (go_at_call 25; (with_reducible refine (KM.out _ (IntsAt.ext H1.out E1) (IntsAt.ext H2.out E1)).mono ?_); rintro E w2 ⟨v2, vs2, rfl, o2, ls2, h2⟩; obtain ⟨-, sa, sc, hv2, -⟩ := SlAt.of_owns o2; subst hv2; have O2 := Lib.hid o2; have LS := Lib.hid ls2; have E2 : Ext w w2 := E1.trans h2; have hB2 := Lib.hid (h2.blk hB1.out); clear o2 ls2 c0 c3 c4 c5 f0 f3 f4 f5; obtain ⟨⟨c0, c3, c4, c5⟩, f0, f3, f4, f5⟩ := run_4 hB2.out; have z2 : w.heap.size < w2.heap.size := World.block_lt_of_cell? _ _ c0) | (go_at_call 43; (with_reducible refine (KA.out _).mono ?_); rintro E w1 ⟨rfl, h1⟩; have E1 : Ext w w1 := ((Ext.refl _).alloc _).trans h1; have hB1 := Lib.hid (h1.blk (blk_at w _ rfl)); obtain ⟨⟨c0, c3, c4, c5⟩, f0, f3, f4, f5⟩ := run_4 hB1.out; have z1 : w.heap.size < w1.heap.size := World.block_lt_of_cell? _ _ c0))
  clear c0 c3 c4 c5 f0 f3 f4 f5
  go_loopw [50] (fun i wr => ∃ k : Nat, k ≤ l.length ∧ i = .int .i64 (k : Int) ∧ Hid (Ext w2 wr)) (fun i _ => l.length - (intOf i).toNat)
  case atStart => exact ⟨0, by omega, rfl, Lib.hid (Ext.refl _)⟩
  case round =>
    obtain ⟨k, hk, rfl, hEr⟩ := hrel
    by_cases hkl : k < l.length
    · have hx := LS.out.2 k hkl
      obtain ⟨hx1, hx2, hx3⟩ := HR.out.1 k hkl
      obtain ⟨ao9, cp9, hgv, hgc⟩ := rows_form O2.out LS.out.1
      injection hgv with hg1 _ hg2
      subst hg1
      subst hg2
      obtain ⟨gb, gof, rfl, y0⟩ := hgc k hkl
      have hrow := hx.at_
      obtain ⟨x, hxe⟩ : ∃ x, l.getD k [] = x := ⟨_, rfl⟩
      rw [hxe] at hrow hx1 hx2 hx3
      obtain ⟨ax, cx, hux, -, hxc⟩ := hrow.form
      rw [idx_length, hx1] at hux
      rw [hux] at y0 hrow
      have HXC := Lib.hid (fun j (hj : j < se.length) => by
        have := hxc j (by rw [idx_length, hx1]; exact hj)
        rw [idx_get] at this
        exact this)
      have HROW := Lib.hid hrow
      have HXE := Lib.hid hxe
      have HX2 := Lib.hid hx2
      have HX3 := Lib.hid hx3
      have y0 := hEr.out.get y0
      have yz := World.block_lt_of_cell? _ _ y0
      simp only at yz
      have HX1 := Lib.hid hx1
      have hki : (k : Int) < (l.length : Int) := by omega
      have HUX := Lib.hid hux
      clear hx hrow hxe hxc hx2 hx3 hux hx1
      rcases Nat.eq_zero_or_pos k with hk0 | hk0
      · have hk1 : decide ((0 : Int) < (k : Int)) = false := decide_eq_false (by omega)
        have hk2 : decide (0 < k) = false := decide_eq_false (by omega)
        obtain ⟨w3, hw3⟩ : ∃ z, wr = z := ⟨_, rfl⟩
        subst hw3
        have E3 := hEr
        have E32 := Lib.hid (Ext.refl wr)
        clear hgc hk0
        go_wp2
        clear y0
        go_loopw [76] (fun i wq => ∃ j : Nat, j ≤ se.length ∧ i = .int .i64 (j : Int) ∧ Hid (Ext wr wq)) (fun i _ => se.length - (intOf i).toNat)
        case atStart => exact ⟨0, by omega, rfl, Lib.hid (Ext.refl _)⟩
        case round =>
          obtain ⟨j, hj, rfl, hEq⟩ := hrel
          by_cases hjl : j < se.length
          · obtain ⟨bx, ox, rfl, p0⟩ := HXC.out j hjl
            have p0 := hEq.out.get (E3.out.get p0)
            have hlt := HX2.out j (by omega)
            obtain ⟨xj, hxj⟩ : ∃ q, x.getD j 0 = q := ⟨_, rfl⟩
            rw [hxj] at p0 hlt
            have HXJ := Lib.hid hxj
            clear hxj
            have hjli : (j : Int) < (se.length : Int) := by omega
            have u2 : decide ((xj : Int) < 0) = false := decide_eq_false (by omega)
            have u3 : decide ((fi.length : Int) ≤ (xj : Int)) = false := decide_eq_false (by omega)
            have u3n : decide (fi.length ≤ xj) = false := decide_eq_false (by omega)
            have pz := World.block_lt_of_cell? _ _ p0
            simp only at pz
            go_wp2
            go_loopw [94] (fun i wi => ∃ q : Nat, q ≤ j ∧ i = .int .i64 (q : Int) ∧ Hid (Ext wr wi)) (fun i _ => j - (intOf i).toNat)
            case atStart => exact ⟨0, by omega, rfl, Lib.hid (Ext.refl _)⟩
            case round =>
              obtain ⟨q, hq, rfl, hEi⟩ := hrel
              by_cases hqj : q < j
              · obtain ⟨bx2, ox2, hbx, p1⟩ := HXC.out q (by omega)
                injection hbx with hbx
                injection hbx with hb1 hb2
                subst hb1
                subst hb2
                have p0 := hEi.out.get p0
                have p1 := hEi.out.get (hEq.out.get (E3.out.get p1))
                have hlq := HX2.out q (by omega)
                have has := HX3.out j (by rw [HX1.out]; exact hjl) q hqj
                rw [HXJ.out] at has
                obtain ⟨xq, hxq⟩ : ∃ z, x.getD q 0 = z := ⟨_, rfl⟩
                rw [hxq] at p1 hlq has
                clear hxq
                obtain ⟨has1, has2⟩ := has
                obtain ⟨bf, of_, rfl, r0⟩ := HC1.out xj hlt
                obtain ⟨bf2, of2, hbf, r1⟩ := HC1.out xq hlq
                injection hbf with hbf
                injection hbf with hb1 hb2
                subst hb1
                subst hb2
                obtain ⟨bs, os, rfl, t0⟩ := HC2.out j (by omega)
                obtain ⟨bs2, os2, hbs, t9⟩ := HC2.out q (by omega)
                injection hbs with hbs
                injection hbs with hb1 hb2
                subst hb1
                subst hb2
                have hEw := Lib.hid (((E2.trans E3.out).trans hEq.out).trans hEi.out)
                have r0 := hEw.out.get r0
                have r1 := hEw.out.get r1
                have t0 := hEw.out.get t0
                have t9 := hEw.out.get t9
                have b1 := (HI1.out xj hlt).1
                have b2 := (HI1.out xq hlq).1
                have b3 := (HI2.out j (by omega)).1
                have b4 := (HI2.out q (by omega)).1
                have hB9 := Lib.hid (((E3.out.trans hEq.out).trans hEi.out).blk hB2.out)
                obtain ⟨⟨d0, d1, d2, d3⟩, e0, e1, e2, e3⟩ := run_4 hB9.out
                have z1 := World.block_lt_of_cell? _ _ p0
                have z2 := World.block_lt_of_cell? _ _ r0
                have z3 := World.block_lt_of_cell? _ _ t0
                have z4 := World.block_lt_of_cell? _ _ d0
                simp only at z1 z2 z3 z4
                obtain ⟨f1, hf1⟩ : ∃ z, fi.getD xj 0 = z := ⟨_, rfl⟩
                obtain ⟨f2, hf2⟩ : ∃ z, fi.getD xq 0 = z := ⟨_, rfl⟩
                obtain ⟨g1, hg1⟩ : ∃ z, se.getD j 0 = z := ⟨_, rfl⟩
                obtain ⟨g2, hg2⟩ : ∃ z, se.getD q 0 = z := ⟨_, rfl⟩
                rw [hf1] at r0 b1 has2
                rw [hf2] at r1 b2 has2
                rw [hg1] at t0 b3 has2
                rw [hg2] at t9 b4 has2
                clear hf1 hf2 hg1 hg2
                obtain ⟨b1l, b1h⟩ := b1
                obtain ⟨b2l, b2h⟩ := b2
                obtain ⟨b3l, b3h⟩ := b3
                obtain ⟨b4l, b4h⟩ := b4
                have u4 : decide ((xj : Int) ≤ (xq : Int)) = false := decide_eq_false (by omega)
                have u5 : decide (xj ≤ xq) = false := decide_eq_false (by omega)
                have K50 := Lib.hid (fun w => (show Calls Try.prog 50 #[.agg #[.int .i64 b.step, .int .i64 b.slip, .int .i64 b.gate, .int .i64 b.length], .int .i64 (f1 - f2), .int .i64 (g1 - g2)] w (fun e w' => e = .returned (.bool true) ∧ Ext w w') from decide_eq_true has2 ▸ w50 b HB.out (f1 - f2) (g1 - g2) (by omega) (by omega) (by omega) (by omega) w))
                have i1 : (q : Int) < (se.length : Int) := by omega
                have i2 : (xj : Int) < (fi.length : Int) := by omega
                have i3 : (xq : Int) < (fi.length : Int) := by omega
                have i4 : (j : Int) < (se.length : Int) := by omega
                have i5 : (q : Int) < (se.length : Int) := by omega
                have HA1 := Lib.hid has1
                have HA2 := Lib.hid has2
                clear has1 has2
                go_wp2
                refine wp_region_quiet_below (by kernel_rfl) (by kernel_rfl) ?_
                repeat (go_big_quiet_step ((go_at_call 50; with_reducible exact Calls.ext_of (K50.out _))))
                refine wpQuiet_nil ?_
                intro w9 hw'
                obtain ⟨pq, hw''⟩ := hw'
                have hb9 := ext_of_regrown hw''
                clear hw'' pq
                go_wp2
                go_roundw
                case rel => exact ⟨q + 1, by omega, by go_num, Lib.hid (hEi.out.trans hb9)⟩
                case measure => simp [intOf]; omega
              · go_wp2
                go_roundw
                case rel => exact ⟨j + 1, by omega, by go_num, Lib.hid (hEq.out.trans hEi.out)⟩
                case measure => simp [intOf]; omega
          · go_wp2
            go_roundw
            case rel => exact ⟨k + 1, by omega, by go_num, Lib.hid (hEr.out.trans (E32.out.trans hEq.out))⟩
            case measure => simp [intOf]; omega
      · obtain ⟨k9, hk9⟩ : ∃ j, j + 1 = k := ⟨k - 1, by omega⟩
        have hk8 : (k : Int) - 1 = (k9 : Int) := by omega
        have hk7 : k9 < l.length := by omega
        obtain ⟨gb2, gof2, hge, y9⟩ := hgc k9 hk7
        injection hge with hge
        injection hge with hb1 hb2
        subst hb1
        subst hb2
        have hzx := LS.out.2 k9 hk7
        obtain ⟨z, hze⟩ : ∃ x, l.getD k9 [] = x := ⟨_, rfl⟩
        have hz1 := (HR.out.1 k9 hk7).1
        have hlex := HR.out.2 k9 (by omega)
        rw [hk9] at hlex
        rw [hze] at hzx hz1 hlex
        rw [HXE.out] at hlex
        have hzrow := hzx.at_
        obtain ⟨az, cz, huz, -, -⟩ := hzrow.form
        rw [idx_length, hz1] at huz
        rw [huz] at y9 hzrow
        have y9 := hEr.out.get y9
        have K49 := Lib.hid (w49 z x _ _ wr (hzrow.ext hEr.out) (HROW.out.ext hEr.out) hlex (by rw [hz1, HX1.out]) (by omega))
        have hk2 : decide ((0 : Int) < (k : Int)) = true := decide_eq_true (by omega)
        have hk1 : decide (0 < k) = true := decide_eq_true (by omega)
        have hk3 : (k9 : Int) < (l.length : Int) := by omega
        clear hgc hk9 hk0 hzx hze hlex hzrow huz hz1
        go_wp2_with (go_at_call 49; (with_reducible refine K49.out.mono ?_); rintro E w3 ⟨rfl, hb3⟩; have E3 := Lib.hid (hEr.out.trans hb3); have E32 := Lib.hid hb3)
        clear y9
        clear y0
        go_loopw [76] (fun i wq => ∃ j : Nat, j ≤ se.length ∧ i = .int .i64 (j : Int) ∧ Hid (Ext w3 wq)) (fun i _ => se.length - (intOf i).toNat)
        case atStart => exact ⟨0, by omega, rfl, Lib.hid (Ext.refl _)⟩
        case round =>
          obtain ⟨j, hj, rfl, hEq⟩ := hrel
          by_cases hjl : j < se.length
          · obtain ⟨bx, ox, rfl, p0⟩ := HXC.out j hjl
            have p0 := hEq.out.get (E3.out.get p0)
            have hlt := HX2.out j (by omega)
            obtain ⟨xj, hxj⟩ : ∃ q, x.getD j 0 = q := ⟨_, rfl⟩
            rw [hxj] at p0 hlt
            have HXJ := Lib.hid hxj
            clear hxj
            have hjli : (j : Int) < (se.length : Int) := by omega
            have u2 : decide ((xj : Int) < 0) = false := decide_eq_false (by omega)
            have u3 : decide ((fi.length : Int) ≤ (xj : Int)) = false := decide_eq_false (by omega)
            have u3n : decide (fi.length ≤ xj) = false := decide_eq_false (by omega)
            have pz := World.block_lt_of_cell? _ _ p0
            simp only at pz
            go_wp2
            go_loopw [94] (fun i wi => ∃ q : Nat, q ≤ j ∧ i = .int .i64 (q : Int) ∧ Hid (Ext wr wi)) (fun i _ => j - (intOf i).toNat)
            case atStart => exact ⟨0, by omega, rfl, Lib.hid (Ext.refl _)⟩
            case round =>
              obtain ⟨q, hq, rfl, hEi⟩ := hrel
              by_cases hqj : q < j
              · obtain ⟨bx2, ox2, hbx, p1⟩ := HXC.out q (by omega)
                injection hbx with hbx
                injection hbx with hb1 hb2
                subst hb1
                subst hb2
                have p0 := hEi.out.get p0
                have p1 := hEi.out.get (hEq.out.get (E3.out.get p1))
                have hlq := HX2.out q (by omega)
                have has := HX3.out j (by rw [HX1.out]; exact hjl) q hqj
                rw [HXJ.out] at has
                obtain ⟨xq, hxq⟩ : ∃ z, x.getD q 0 = z := ⟨_, rfl⟩
                rw [hxq] at p1 hlq has
                clear hxq
                obtain ⟨has1, has2⟩ := has
                obtain ⟨bf, of_, rfl, r0⟩ := HC1.out xj hlt
                obtain ⟨bf2, of2, hbf, r1⟩ := HC1.out xq hlq
                injection hbf with hbf
                injection hbf with hb1 hb2
                subst hb1
                subst hb2
                obtain ⟨bs, os, rfl, t0⟩ := HC2.out j (by omega)
                obtain ⟨bs2, os2, hbs, t9⟩ := HC2.out q (by omega)
                injection hbs with hbs
                injection hbs with hb1 hb2
                subst hb1
                subst hb2
                have hEw := Lib.hid (((E2.trans E3.out).trans hEq.out).trans hEi.out)
                have r0 := hEw.out.get r0
                have r1 := hEw.out.get r1
                have t0 := hEw.out.get t0
                have t9 := hEw.out.get t9
                have b1 := (HI1.out xj hlt).1
                have b2 := (HI1.out xq hlq).1
                have b3 := (HI2.out j (by omega)).1
                have b4 := (HI2.out q (by omega)).1
                have hB9 := Lib.hid (((E3.out.trans hEq.out).trans hEi.out).blk hB2.out)
                obtain ⟨⟨d0, d1, d2, d3⟩, e0, e1, e2, e3⟩ := run_4 hB9.out
                have z1 := World.block_lt_of_cell? _ _ p0
                have z2 := World.block_lt_of_cell? _ _ r0
                have z3 := World.block_lt_of_cell? _ _ t0
                have z4 := World.block_lt_of_cell? _ _ d0
                simp only at z1 z2 z3 z4
                obtain ⟨f1, hf1⟩ : ∃ z, fi.getD xj 0 = z := ⟨_, rfl⟩
                obtain ⟨f2, hf2⟩ : ∃ z, fi.getD xq 0 = z := ⟨_, rfl⟩
                obtain ⟨g1, hg1⟩ : ∃ z, se.getD j 0 = z := ⟨_, rfl⟩
                obtain ⟨g2, hg2⟩ : ∃ z, se.getD q 0 = z := ⟨_, rfl⟩
                rw [hf1] at r0 b1 has2
                rw [hf2] at r1 b2 has2
                rw [hg1] at t0 b3 has2
                rw [hg2] at t9 b4 has2
                clear hf1 hf2 hg1 hg2
                obtain ⟨b1l, b1h⟩ := b1
                obtain ⟨b2l, b2h⟩ := b2
                obtain ⟨b3l, b3h⟩ := b3
                obtain ⟨b4l, b4h⟩ := b4
                have u4 : decide ((xj : Int) ≤ (xq : Int)) = false := decide_eq_false (by omega)
                have u5 : decide (xj ≤ xq) = false := decide_eq_false (by omega)
                have K50 := Lib.hid (fun w => (show Calls Try.prog 50 #[.agg #[.int .i64 b.step, .int .i64 b.slip, .int .i64 b.gate, .int .i64 b.length], .int .i64 (f1 - f2), .int .i64 (g1 - g2)] w (fun e w' => e = .returned (.bool true) ∧ Ext w w') from decide_eq_true has2 ▸ w50 b HB.out (f1 - f2) (g1 - g2) (by omega) (by omega) (by omega) (by omega) w))
                have i1 : (q : Int) < (se.length : Int) := by omega
                have i2 : (xj : Int) < (fi.length : Int) := by omega
                have i3 : (xq : Int) < (fi.length : Int) := by omega
                have i4 : (j : Int) < (se.length : Int) := by omega
                have i5 : (q : Int) < (se.length : Int) := by omega
                have HA1 := Lib.hid has1
                have HA2 := Lib.hid has2
                clear has1 has2
                go_wp2
                refine wp_region_quiet_below (by kernel_rfl) (by kernel_rfl) ?_
                repeat (go_big_quiet_step ((go_at_call 50; with_reducible exact Calls.ext_of (K50.out _))))
                refine wpQuiet_nil ?_
                intro w9 hw'
                obtain ⟨pq, hw''⟩ := hw'
                have hb9 := ext_of_regrown hw''
                clear hw'' pq
                go_wp2
                go_roundw
                case rel => exact ⟨q + 1, by omega, by go_num, Lib.hid (hEi.out.trans hb9)⟩
                case measure => simp [intOf]; omega
              · go_wp2
                go_roundw
                case rel => exact ⟨j + 1, by omega, by go_num, Lib.hid (hEq.out.trans hEi.out)⟩
                case measure => simp [intOf]; omega
          · go_wp2
            go_roundw
            case rel => exact ⟨k + 1, by omega, by go_num, Lib.hid (hEr.out.trans (E32.out.trans hEq.out))⟩
            case measure => simp [intOf]; omega
    · obtain rfl : k = l.length := by omega
      have hB3 := Lib.hid (hEr.out.blk hB2.out)
      obtain ⟨⟨c0, c3, c4, c5⟩, f0, f3, f4, f5⟩ := run_4 hB3.out
      have z3 : w.heap.size < wr.heap.size := World.block_lt_of_cell? _ _ c0
      have E3 := Lib.hid (E2.trans hEr.out)
      have hO9 := Lib.hid (owns_ext O2.out hEr.out)
      by_cases hsl : slip < b.slip
      · have u1 : decide (slip < b.slip) = true := decide_eq_true hsl
        clear hsl
        go_wp2_with (go_at_call 25; (with_reducible refine (KM2.out _ (IntsAt.ext H1.out (E3.out.alloc _)) (IntsAt.ext H2.out (E3.out.alloc _))).mono ?_); rintro E w4 ⟨v4, vs4, rfl, o4, ls4, h4⟩; obtain ⟨-, sa4, sc4, hv4, -⟩ := SlAt.of_owns o4; subst hv4; have E4 := Lib.hid ((E3.out.alloc (.cells #[.int .i64 b.step, .int .i64 slip, .int .i64 b.gate, .int .i64 b.length] 23)).trans h4); have hB4 := Lib.hid (h4.blk (((Ext.refl wr).alloc (.cells #[.int .i64 b.step, .int .i64 slip, .int .i64 b.gate, .int .i64 b.length] 23)).blk hB3.out)); clear o4 ls4 c0 c3 c4 c5 f0 f3 f4 f5; obtain ⟨⟨c0, c3, c4, c5⟩, f0, f3, f4, f5⟩ := run_4 hB4.out; have z4 : w.heap.size < w4.heap.size := World.block_lt_of_cell? _ _ c0)
        go_ret
        exact ⟨rfl, E4.out⟩
      · have u1 : decide (slip < b.slip) = false := decide_eq_false hsl
        rcases HLO.out (by omega) with hf | ⟨hf, hlm⟩
        · subst hf
          clear hsl
          go_wp2_with (go_at_call 25; (with_reducible refine (KM2.out _ (IntsAt.ext H1.out (E3.out.alloc _)) (IntsAt.ext H2.out (E3.out.alloc _))).mono ?_); rintro E w4 ⟨v4, vs4, rfl, o4, ls4, h4⟩; obtain ⟨-, sa4, sc4, hv4, -⟩ := SlAt.of_owns o4; subst hv4; have E4 := Lib.hid ((E3.out.alloc (.cells #[.int .i64 b.step, .int .i64 slip, .int .i64 b.gate, .int .i64 b.length] 23)).trans h4); have hB4 := Lib.hid (h4.blk (((Ext.refl wr).alloc (.cells #[.int .i64 b.step, .int .i64 slip, .int .i64 b.gate, .int .i64 b.length] 23)).blk hB3.out)); clear o4 ls4 c0 c3 c4 c5 f0 f3 f4 f5; obtain ⟨⟨c0, c3, c4, c5⟩, f0, f3, f4, f5⟩ := run_4 hB4.out; have z4 : w.heap.size < w4.heap.size := World.block_lt_of_cell? _ _ c0)
          go_ret
          exact ⟨rfl, E4.out⟩
        · subst hf
          have u2 : decide ((l.length : Int) ≤ (m.length : Int)) = true := decide_eq_true (by omega)
          clear hsl
          go_wp2_with (go_at_call 25; (with_reducible refine (KM2.out _ (IntsAt.ext H1.out (E3.out.alloc _)) (IntsAt.ext H2.out (E3.out.alloc _))).mono ?_); rintro E w4 ⟨v4, vs4, rfl, o4, ls4, h4⟩; obtain ⟨-, sa4, sc4, hv4, -⟩ := SlAt.of_owns o4; subst hv4; have E4 := Lib.hid ((E3.out.alloc (.cells #[.int .i64 b.step, .int .i64 slip, .int .i64 b.gate, .int .i64 b.length] 23)).trans h4); have hB4 := Lib.hid (h4.blk (((Ext.refl wr).alloc (.cells #[.int .i64 b.step, .int .i64 slip, .int .i64 b.gate, .int .i64 b.length] 23)).blk hB3.out)); clear o4 ls4 c0 c3 c4 c5 f0 f3 f4 f5; obtain ⟨⟨c0, c3, c4, c5⟩, f0, f3, f4, f5⟩ := run_4 hB4.out; have z4 : w.heap.size < w4.heap.size := World.block_lt_of_cell? _ _ c0)
          go_ret
          exact ⟨rfl, E4.out⟩
end Go.Proofs.Ytcbimfaneinpkaa
