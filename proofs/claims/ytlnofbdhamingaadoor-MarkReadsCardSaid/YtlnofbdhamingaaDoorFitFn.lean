/- How many symbols are erased, and wrong: the law's functions and the reference's. -/
import Derived.Test.YtlnofbdhamingaaDoorEncFn
import Derived.Test.YtlnofbdhamingaaDoorTail
set_option linter.unusedVariables false
set_option linter.unusedSimpArgs false
namespace Go.Proofs.YtlnofbdhamingaaDoor
open Go.RowKit Go.Sort

theorem bools_cells {w : World} {v : Value} {l : List Bool} (h : BoolsAt w v l) : ∃ ao cap, v = .slice ao l.length cap ∧ ∀ i, i < l.length → ∃ b off, ao = some ⟨b, off, none⟩ ∧ w.cell? ⟨b, off + i, none⟩ = some (.bool (l.getD i false)) := by
  obtain ⟨-, ao, cap, he, -, -, -, hc⟩ := h
  exact ⟨ao, cap, he, fun i hi => hc i _ (boolsL_get hi)⟩
theorem bytes_cells {w : World} {v : Value} {l : List Nat} (h : BytesAt w v l) : ∃ ao cap, v = .slice ao l.length cap ∧ ∀ i, i < l.length → ∃ b off, ao = some ⟨b, off, none⟩ ∧ w.cell? ⟨b, off + i, none⟩ = some (.int .u8 ((l.getD i 0 : Nat) : Int)) := by
  obtain ⟨-, ao, cap, he, -, -, -, hc⟩ := h
  exact ⟨ao, cap, he, fun i hi => hc i _ (bytesL_get hi)⟩
set_option maxRecDepth 100000 in
set_option maxHeartbeats 4000000 in
theorem l_gone (ve : Value) (er : List Bool) (w : World) (he : BoolsAt w ve er) (hl : er.length ≤ maxLen) :
    Calls Tryd.prog 43 #[ve] w fun e w' => e = .returned (.int .i64 ((goneN er : Nat) : Int)) ∧ Ext w w' := by
  obtain ⟨ao, cap, rfl, hc⟩ := bools_cells he
  have HC := Lib.hid hc
  have HG := Lib.hid (show goneN er = goneK er er.length from rfl)
  obtain ⟨n, hn⟩ : ∃ n, er.length = n := ⟨_, rfl⟩
  rw [hn] at HC hl HG ⊢
  have HN := Lib.hid hn
  unfold maxLen at hl
  clear he hc hn
  go_enter Tryd.func43, Tryd.ntmps43
  go_wp2
  go_loopw [3, 4] (fun nn ii wi => ∃ i : Nat, i ≤ n ∧ ii = .int .i64 (i : Int) ∧ Ext w wi ∧ nn = .int .i64 ((goneK er i : Nat) : Int)) (fun _ ii _ => n - (intOf ii).toNat)
  case atStart => exact ⟨0, Nat.zero_le _, rfl, Ext.refl _, rfl⟩
  case round =>
    obtain ⟨i, hi, rfl, hE, rfl⟩ := hrel
    by_cases h : i < n
    · obtain ⟨b, off, rfl, c0'⟩ := HC.out i h
      have c0 := hE.get c0'
      have HS := Lib.hid (goneK_succ er i)
      have hle := goneK_le er i
      have p1 : decide ((i : Int) < (n : Int)) = true := decide_eq_true (by omega)
      have p2 : (i : Int) < (n : Int) := by omega
      obtain ⟨m, hm⟩ : ∃ m, goneK er i = m := ⟨_, rfl⟩
      obtain ⟨x, hx⟩ : ∃ x, er.getD i false = x := ⟨_, rfl⟩
      rw [hx] at c0 HS
      rw [hm] at HS hle ⊢
      clear hm hx c0'
      cases x
      · have HS9 := Lib.hid (show goneK er (i + 1) = m from HS.out)
        go_wp2
        exact ⟨⟨i + 1, by omega, by go_num, hE, by rw [HS9.out]⟩, by simp [intOf]; omega⟩
      · have HS9 := Lib.hid (show goneK er (i + 1) = m + 1 from HS.out)
        go_wp2
        exact ⟨⟨i + 1, by omega, by go_num, hE, by rw [HS9.out]; go_num⟩, by simp [intOf]; omega⟩
    · have ei : i = n := by omega
      have p1 : decide ((i : Int) < (n : Int)) = false := decide_eq_false (by omega)
      have HR := Lib.hid (show goneK er i = goneN er by rw [HG.out, ei])
      rw [HR.out]
      clear ei
      go_wp2
      go_ret
      exact ⟨rfl, hE⟩
set_option maxRecDepth 100000 in
set_option maxHeartbeats 4000000 in
theorem r_Erased (ve : Value) (er : List Bool) (w : World) (he : BoolsAt w ve er) (hl : er.length ≤ maxLen) :
    Calls Tryd.prog 74 #[ve] w fun e w' => e = .returned (.int .i64 ((goneN er : Nat) : Int)) ∧ Ext w w' := by
  obtain ⟨ao, cap, rfl, hc⟩ := bools_cells he
  have HC := Lib.hid hc
  have HG := Lib.hid (show goneN er = goneK er er.length from rfl)
  obtain ⟨n, hn⟩ : ∃ n, er.length = n := ⟨_, rfl⟩
  rw [hn] at HC hl HG ⊢
  have HN := Lib.hid hn
  unfold maxLen at hl
  clear he hc hn
  go_enter Tryd.func74, Tryd.ntmps74
  go_wp2
  go_loopw [3, 4] (fun nn ii wi => ∃ i : Nat, i ≤ n ∧ ii = .int .i64 (i : Int) ∧ Ext w wi ∧ nn = .int .i64 ((goneK er i : Nat) : Int)) (fun _ ii _ => n - (intOf ii).toNat)
  case atStart => exact ⟨0, Nat.zero_le _, rfl, Ext.refl _, rfl⟩
  case round =>
    obtain ⟨i, hi, rfl, hE, rfl⟩ := hrel
    by_cases h : i < n
    · obtain ⟨b, off, rfl, c0'⟩ := HC.out i h
      have c0 := hE.get c0'
      have HS := Lib.hid (goneK_succ er i)
      have hle := goneK_le er i
      have p1 : decide ((i : Int) < (n : Int)) = true := decide_eq_true (by omega)
      have p2 : (i : Int) < (n : Int) := by omega
      obtain ⟨m, hm⟩ : ∃ m, goneK er i = m := ⟨_, rfl⟩
      obtain ⟨x, hx⟩ : ∃ x, er.getD i false = x := ⟨_, rfl⟩
      rw [hx] at c0 HS
      rw [hm] at HS hle ⊢
      clear hm hx c0'
      cases x
      · have HS9 := Lib.hid (show goneK er (i + 1) = m from HS.out)
        go_wp2
        exact ⟨⟨i + 1, by omega, by go_num, hE, by rw [HS9.out]⟩, by simp [intOf]; omega⟩
      · have HS9 := Lib.hid (show goneK er (i + 1) = m + 1 from HS.out)
        go_wp2
        exact ⟨⟨i + 1, by omega, by go_num, hE, by rw [HS9.out]; go_num⟩, by simp [intOf]; omega⟩
    · have ei : i = n := by omega
      have p1 : decide ((i : Int) < (n : Int)) = false := decide_eq_false (by omega)
      have HR := Lib.hid (show goneK er i = goneN er by rw [HG.out, ei])
      rw [HR.out]
      clear ei
      go_wp2
      go_ret
      exact ⟨rfl, hE⟩
theorem enc_get (M : List Nat) {i : Nat} (hi : i < 15) : (encR M).getD i 0 = gval M (powN i) := by
  unfold encR
  rw [List.getD_eq_getElem?_getD, List.getElem?_map, List.getElem?_range hi]; rfl
set_option maxRecDepth 100000 in
set_option maxHeartbeats 4000000 in
theorem l_errors (v1 v2 ve : Value) (M wd : List Nat) (er : List Bool) (w : World) (hT : Tabs w) (hm : isMessage M = true) (h1 : BytesAt w v1 M) (h2 : BytesAt w v2 wd) (he : BoolsAt w ve er) (hwl : wd.length = 15) (hel : er.length = 15) :
    Calls Tryd.prog 42 #[v1, v2, ve] w fun e w' => e = .returned (.int .i64 ((errK M wd er 15 : Nat) : Int)) ∧ Ext w w' := by
  have K1 := Lib.hid (encK hT h1 hm)
  have HM := Lib.hid (fun i hi => enc_get M (i := i) hi)
  have HW := Lib.hid (encR_length M)
  obtain ⟨W, hW⟩ : ∃ W, encR M = W := ⟨_, rfl⟩
  unfold EncK at K1
  rw [hW] at K1 HM HW
  
  obtain ⟨-, ao1, ac1, rfl, -⟩ := id h1
  obtain ⟨ao, cap, rfl, hc⟩ := bytes_cells h2
  obtain ⟨bo, bcap, rfl, hb⟩ := bools_cells he
  have HC := Lib.hid hc
  have HB := Lib.hid hb
  rw [hwl] at HC ⊢
  rw [hel] at HB ⊢
  clear hc hb h1 h2 he hwl hel hW hT hm
  go_enter Tryd.func42, Tryd.ntmps42
  go_wp2_with (go_at_call 22; (with_reducible refine (K1.out _ (Ext.refl _)).mono ?_); rintro E w1 ⟨v', rfl, o1, h1⟩; obtain ⟨g1, c1, rfl, -, -⟩ := owns_some o1 (by decide))
  have O1 := Lib.hid (show ∀ i, i < 15 → w1.cell? ⟨g1, i, none⟩ = some (.int .u8 ((W.getD i 0 : Nat) : Int)) from fun i hi => by rw [o1.cellAt i (by omega), bytesL_get (by rw [HW.out]; exact hi)])
  clear o1
  go_loopw [9, 10] (fun nn ii wi => ∃ i : Nat, i ≤ 15 ∧ ii = .int .i64 (i : Int) ∧ Ext w1 wi ∧ nn = .int .i64 ((errK M wd er i : Nat) : Int)) (fun _ ii _ => 15 - (intOf ii).toNat)
  case atStart => exact ⟨0, Nat.zero_le _, rfl, Ext.refl _, rfl⟩
  case round =>
    obtain ⟨i, hi, rfl, hE, rfl⟩ := hrel
    by_cases h : i < 15
    · obtain ⟨b, off, rfl, c0'⟩ := HC.out i h
      obtain ⟨bb, boff, rfl, c1'⟩ := HB.out i h
      have c0 := (h1.trans hE).get c0'
      have c1 := (h1.trans hE).get c1'
      have c2 := hE.get (O1.out i h)
      have HS := Lib.hid (errK_succ M wd er i)
      have hg := HM.out i h
      rw [← hg] at HS
      have hle := errK_le M wd er i
      obtain ⟨m, hm⟩ : ∃ m, errK M wd er i = m := ⟨_, rfl⟩
      obtain ⟨z, hz⟩ : ∃ z, er.getD i false = z := ⟨_, rfl⟩
      obtain ⟨x, hx⟩ : ∃ x, W.getD i 0 = x := ⟨_, rfl⟩
      obtain ⟨y, hy⟩ : ∃ x, wd.getD i 0 = x := ⟨_, rfl⟩
      rw [hz, hx, hy] at HS
      rw [hz] at c1
      rw [hx] at c2
      rw [hy] at c0
      rw [hm] at HS hle ⊢
      clear hm hx hy hz c0' c1' hg
      cases z
      case true =>
        have HS9 := Lib.hid (show errK M wd er (i + 1) = m by rw [HS.out, if_neg (fun h => by have := h.1; cases this)])
        go_wp2
        go_quiet (fail)
        go_wp2
        exact ⟨⟨i + 1, by omega, by go_num, hE.drewN _, by rw [HS9.out]⟩, by simp [intOf]; omega⟩
      case false =>
        by_cases hxy : x = y
        · have q1 : ((x : Int) != (y : Int)) = false := by rw [hxy]; exact bne_self_eq_false' _
          have HS9 := Lib.hid (show errK M wd er (i + 1) = m by rw [HS.out, if_neg (fun h => h.2 hxy)])
          clear hxy
          go_wp2
          go_quiet (fail)
          go_wp2
          exact ⟨⟨i + 1, by omega, by go_num, hE.drewN _, by rw [HS9.out]⟩, by simp [intOf]; omega⟩
        · have q1 : ((x : Int) != (y : Int)) = true := by rw [bne_iff_ne]; omega
          have HS9 := Lib.hid (show errK M wd er (i + 1) = m + 1 by rw [HS.out, if_pos ⟨rfl, hxy⟩])
          clear hxy
          go_wp2
          go_quiet (fail)
          go_wp2
          exact ⟨⟨i + 1, by omega, by go_num, hE.drewN _, by rw [HS9.out]; go_num⟩, by simp [intOf]; omega⟩
    · have ei : i = 15 := by omega
      rw [ei]
      clear ei
      go_wp2
      go_ret
      exact ⟨rfl, h1.trans hE⟩
set_option maxRecDepth 100000 in
set_option maxHeartbeats 4000000 in
theorem r_Errors (v1 v2 ve : Value) (M wd : List Nat) (er : List Bool) (w : World) (hs : Syms M) (hl : M.length ≤ 1000) (h1 : BytesAt w v1 M) (h2 : BytesAt w v2 wd) (he : BoolsAt w ve er) (hwl : wd.length = 15) (hel : er.length = 15) :
    Calls Tryd.prog 64 #[v1, v2, ve] w fun e w' => e = .returned (.int .i64 ((errK M wd er 15 : Nat) : Int)) ∧ Ext w w' := by
  have K1 := Lib.hid (r_Encoded v1 M w h1 hl hs)
  have HM := Lib.hid (fun i hi => enc_get M (i := i) hi)
  have HW := Lib.hid (encR_length M)
  obtain ⟨W, hW⟩ : ∃ W, encR M = W := ⟨_, rfl⟩
  unfold OwnBytes at K1
  rw [encR_length, hW] at K1
  rw [hW] at HM HW
  obtain ⟨-, ao1, ac1, rfl, -⟩ := id h1
  obtain ⟨ao, cap, rfl, hc⟩ := bytes_cells h2
  obtain ⟨bo, bcap, rfl, hb⟩ := bools_cells he
  have HC := Lib.hid hc
  have HB := Lib.hid hb
  rw [hwl] at HC ⊢
  rw [hel] at HB ⊢
  clear hc hb h1 h2 he hwl hel hW hs hl
  go_enter Tryd.func64, Tryd.ntmps64
  go_wp2_with (go_at_call 59; (with_reducible refine K1.out.mono ?_); rintro E w1 ⟨v', rfl, o1, h1⟩; obtain ⟨g1, c1, rfl, -, -⟩ := owns_some o1 (by decide))
  have O1 := Lib.hid (show ∀ i, i < 15 → w1.cell? ⟨g1, i, none⟩ = some (.int .u8 ((W.getD i 0 : Nat) : Int)) from fun i hi => by rw [o1.cellAt i (by omega), bytesL_get (by rw [HW.out]; exact hi)])
  clear o1
  go_loopw [7, 9] (fun nn ii wi => ∃ i : Nat, i ≤ 15 ∧ ii = .int .i64 (i : Int) ∧ Ext w1 wi ∧ nn = .int .i64 ((errK M wd er i : Nat) : Int)) (fun _ ii _ => 15 - (intOf ii).toNat)
  case atStart => exact ⟨0, Nat.zero_le _, rfl, Ext.refl _, rfl⟩
  case round =>
    obtain ⟨i, hi, rfl, hE, rfl⟩ := hrel
    by_cases h : i < 15
    · obtain ⟨b, off, rfl, c0'⟩ := HC.out i h
      obtain ⟨bb, boff, rfl, c1'⟩ := HB.out i h
      have c0 := (h1.trans hE).get c0'
      have c1 := (h1.trans hE).get c1'
      have c2 := hE.get (O1.out i h)
      have HS := Lib.hid (errK_succ M wd er i)
      have hg := HM.out i h
      rw [← hg] at HS
      have hle := errK_le M wd er i
      obtain ⟨m, hm⟩ : ∃ m, errK M wd er i = m := ⟨_, rfl⟩
      obtain ⟨z, hz⟩ : ∃ z, er.getD i false = z := ⟨_, rfl⟩
      obtain ⟨x, hx⟩ : ∃ x, W.getD i 0 = x := ⟨_, rfl⟩
      obtain ⟨y, hy⟩ : ∃ x, wd.getD i 0 = x := ⟨_, rfl⟩
      rw [hz, hx, hy] at HS
      rw [hz] at c1
      rw [hx] at c2
      rw [hy] at c0
      rw [hm] at HS hle ⊢
      clear hm hx hy hz c0' c1' hg
      cases z
      case true =>
        have HS9 := Lib.hid (show errK M wd er (i + 1) = m by rw [HS.out, if_neg (fun h => by have := h.1; cases this)])
        go_wp2
        go_quiet (fail)
        go_wp2
        exact ⟨⟨i + 1, by omega, by go_num, hE.drewN _, by rw [HS9.out]⟩, by simp [intOf]; omega⟩
      case false =>
        by_cases hxy : x = y
        · have q1 : ((y : Int) != (x : Int)) = false := by rw [hxy]; exact bne_self_eq_false' _
          have HS9 := Lib.hid (show errK M wd er (i + 1) = m by rw [HS.out, if_neg (fun h => h.2 hxy)])
          clear hxy
          go_wp2
          go_quiet (fail)
          go_wp2
          exact ⟨⟨i + 1, by omega, by go_num, hE.drewN _, by rw [HS9.out]⟩, by simp [intOf]; omega⟩
        · have q1 : ((y : Int) != (x : Int)) = true := by rw [bne_iff_ne]; omega
          have HS9 := Lib.hid (show errK M wd er (i + 1) = m + 1 by rw [HS.out, if_pos ⟨rfl, hxy⟩])
          clear hxy
          go_wp2
          go_quiet (fail)
          go_wp2
          exact ⟨⟨i + 1, by omega, by go_num, hE.drewN _, by rw [HS9.out]; go_num⟩, by simp [intOf]; omega⟩
    · have ei : i = 15 := by omega
      rw [ei]
      clear ei
      go_wp2
      go_ret
      exact ⟨rfl, h1.trans hE⟩
set_option maxRecDepth 100000 in
set_option maxHeartbeats 4000000 in
theorem r_Received (v ve : Value) (wd : List Nat) (er : List Bool) (k : Int) (w : World) (hv : BytesAt w v wd) (hl : wd.length ≤ maxLen) (he : BoolsAt w ve er) :
    Calls Tryd.prog 41 #[v, ve, .int .i64 k] w fun e w' => e = .returned (.bool (decide (DecOk wd er k))) ∧ Ext w w' := by
  have K1 := Lib.hid (r_symbols v wd w hv hl)
  have HD := Lib.hid (show ∀ b : Bool, (b = true ↔ DecOk wd er k) → decide (DecOk wd er k) = b from fun b h => (dec_of h).symm)
  obtain ⟨ao, ac, rfl, -⟩ := hv.form
  obtain ⟨bo, bc, rfl, -⟩ := bools_cells he
  clear hv he
  unfold DecOk at HD
  by_cases h1 : wd.length = 15
  case neg =>
    have hr := HD.out false (by simp [h1])
    have q : ((wd.length : Int) == 15) = false := by simp; omega
    rw [show decide (DecOk wd er k) = false from hr]
    clear h1 HD hr
    go_enter Tryd.func41, Tryd.ntmps41
    go_wp2
    go_ret
    exact ⟨rfl, Ext.refl _⟩
  have q1 : ((wd.length : Int) == 15) = true := by rw [h1]; rfl
  rcases hs : allSym wd with _ | _
  · have hr := HD.out false (by simp [hs])
    rw [show decide (DecOk wd er k) = false from hr]
    rw [hs] at K1
    clear h1 HD hr hs
    go_enter Tryd.func41, Tryd.ntmps41
    go_wp2_with (go_at_call 84; (with_reducible refine K1.out.mono ?_); rintro E w1 ⟨rfl, h1⟩)
    go_ret
    exact ⟨rfl, h1⟩
  rw [hs] at K1
  by_cases h2 : er.length = 15
  case neg =>
    have hr := HD.out false (by simp [h2])
    have q : ((er.length : Int) == 15) = false := by simp; omega
    rw [show decide (DecOk wd er k) = false from hr]
    clear h1 HD hr hs h2
    go_enter Tryd.func41, Tryd.ntmps41
    go_wp2_with (go_at_call 84; (with_reducible refine K1.out.mono ?_); rintro E w1 ⟨rfl, h1⟩)
    go_ret
    exact ⟨rfl, h1⟩
  have q2 : ((er.length : Int) == 15) = true := by rw [h2]; rfl
  have hr := Lib.hid (HD.out (decide (1 ≤ k ∧ k ≤ 13)) (by simp [h1, h2, hs]))
  rw [show decide (DecOk wd er k) = decide (1 ≤ k ∧ k ≤ 13) from hr.out]
  clear h1 HD hr hs h2
  by_cases h3 : 1 ≤ k
  · by_cases h4 : k ≤ 13
    · rw [decide_eq_true ⟨h3, h4⟩]
      go_enter Tryd.func41, Tryd.ntmps41
      go_wp2_with (go_at_call 84; (with_reducible refine K1.out.mono ?_); rintro E w1 ⟨rfl, h1⟩)
      go_ret
      exact ⟨by simp [h4], h1⟩
    · rw [decide_eq_false (fun h => h4 h.2)]
      go_enter Tryd.func41, Tryd.ntmps41
      go_wp2_with (go_at_call 84; (with_reducible refine K1.out.mono ?_); rintro E w1 ⟨rfl, h1⟩)
      go_ret
      exact ⟨by simp [h4], h1⟩
  · rw [decide_eq_false (fun h => h3 h.1)]
    go_enter Tryd.func41, Tryd.ntmps41
    go_wp2_with (go_at_call 84; (with_reducible refine K1.out.mono ?_); rintro E w1 ⟨rfl, h1⟩)
    go_ret
    exact ⟨by simp [h3], h1⟩
end Go.Proofs.YtlnofbdhamingaaDoor
