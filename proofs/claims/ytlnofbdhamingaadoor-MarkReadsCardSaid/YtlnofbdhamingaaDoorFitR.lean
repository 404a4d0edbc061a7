/- Whether a message fits, and which places are enough: the reference's walks. -/
import Derived.Test.YtlnofbdhamingaaDoorFitFn
import Derived.Test.YtlnofbdhamingaaDoorGDraw
import Derived.Test.YtlnofbdhamingaaDoorGDecode
import Derived.Test.YtlnofbdhamingaaDoorLagr
set_option linter.unusedVariables false
set_option linter.unusedSimpArgs false
namespace Go.Proofs.YtlnofbdhamingaaDoor
open Go.RowKit Go.Sort

set_option maxRecDepth 100000 in
set_option maxHeartbeats 4000000 in
theorem r_Fits (v1 v2 ve : Value) (M wd : List Nat) (er : List Bool) (k : Nat) (w : World) (hs : Syms M) (hk : M.length = k) (hk13 : k ≤ 13) (h1 : BytesAt w v1 M) (h2 : BytesAt w v2 wd) (he : BoolsAt w ve er) (hwl : wd.length = 15) (hel : er.length = 15) :
    Calls Tryd.prog 99 #[v1, v2, ve] w fun e w' => ∃ b, e = .returned (.bool b) ∧ (b = true ↔ FitsW wd er k M) ∧ Ext w w' := by
  have K1 := Lib.hid (fun w' (h : Ext w w') => r_Errors v1 v2 ve M wd er w' hs (by omega) (h1.ext h) (h2.ext h) (he.ext h) hwl hel)
  have K2 := Lib.hid (fun w' (h : Ext w w') => r_Erased ve er w' (he.ext h) (by rw [hel]; decide))
  have HF := Lib.hid (show FitsW wd er k M ↔ 2 * errK M wd er 15 + goneN er ≤ 15 - k from by
    unfold FitsW
    rw [errN_eq, hel]
    exact ⟨fun h => h.2.2, fun h => ⟨hs, hk, h⟩⟩)
  have hn := errK_le M wd er 15
  have hg : goneN er ≤ 15 := by unfold goneN; rw [hel]; exact goneK_le er 15
  obtain ⟨n, hnn⟩ : ∃ n, errK M wd er 15 = n := ⟨_, rfl⟩
  obtain ⟨g, hgg⟩ : ∃ n, goneN er = n := ⟨_, rfl⟩
  rw [hnn] at K1 HF hn
  rw [hgg] at K2 HF hg
  obtain ⟨ao, ac, rfl⟩ := form_len h1 hk
  obtain ⟨bo, bc, rfl, -⟩ := h2.form
  obtain ⟨co, cc, rfl, -⟩ := bools_cells he
  have HX := Lib.hid (And.intro hnn hgg)
  clear h1 h2 he hwl hel hs hk hnn hgg
  go_enter Tryd.func99, Tryd.ntmps99
  go_wp2_with (first
    | (go_at_call 64; (with_reducible refine (K1.out _ (Ext.refl _)).mono ?_); rintro E w1 ⟨rfl, h1⟩)
    | (go_at_call 74; (with_reducible refine (K2.out _ h1).mono ?_); rintro E w2 ⟨rfl, h2⟩))
  go_ret
  refine ⟨_, rfl, ?_, h1.trans h2⟩
  rw [HF.out]
  simp
  omega
set_option maxRecDepth 100000 in
set_option maxHeartbeats 4000000 in
theorem r_enough (ve : Value) (er : List Bool) (k : Nat) (w : World) (hk1 : 1 ≤ k) (hk13 : k ≤ 13) (he : BoolsAt w ve er) (hel : er.length = 15) :
    Calls Tryd.prog 63 #[ve, .int .i64 (k : Int)] w fun e w' => ∃ v', e = .returned v' ∧ IntsAt w' v' (natI (enoughK er k 15)) ∧ Ext w w' := by
  obtain ⟨i3, ii, iz0, iz1, iz2⟩ := info_parts3 info_int
  have K2 := Lib.hid (r_Erased ve er w he (by rw [hel]; decide))
  have hg : goneN er ≤ 15 := by unfold goneN; rw [hel]; exact goneK_le er 15
  have HN := Lib.hid (show enoughN er k = ((k : Int) + (15 - (k : Int) - (goneN er : Int)).tdiv 2).toNat from rfl)
  have HS := Lib.hid (enoughK_succ er k)
  obtain ⟨g, hgg⟩ : ∃ n, goneN er = n := ⟨_, rfl⟩
  rw [hgg] at K2 hg HN
  obtain ⟨co, cc, rfl, hc⟩ := bools_cells he
  have HC := Lib.hid hc
  rw [hel] at HC K2 ⊢
  have HL := Lib.hid (show ∀ i, i ≤ 15 → (enoughK er k i).length ≤ i from fun i _ => by
    unfold enoughK
    rw [List.length_take]
    have := places_gone er i
    omega)
  obtain ⟨t, ht⟩ : ∃ t, (15 - (k : Int) - (g : Int)).tdiv 2 = t := ⟨_, rfl⟩
  have htb : -15 ≤ t ∧ t ≤ 7 := by
    have e : ∀ x : Int, -13 ≤ x → x ≤ 14 → -15 ≤ x.tdiv 2 ∧ x.tdiv 2 ≤ 7 := fun x h1 h2 => by
      rcases Int.le_total 0 x with h | h
      · rw [Int.tdiv_eq_ediv_of_nonneg h]; omega
      · have := Int.neg_tdiv (a := -x) (b := 2)
        rw [Int.neg_neg, Int.tdiv_eq_ediv_of_nonneg (show 0 ≤ -x by omega)] at this
        omega
    rw [← ht]
    exact e _ (by omega) (by omega)
  rw [ht] at HN
  have HG := Lib.hid hgg
  clear he hel hc hgg
  go_enter Tryd.func63, Tryd.ntmps63
  go_wp2_with (go_at_call 74; (with_reducible refine K2.out.mono ?_); rintro E w1 ⟨rfl, h1⟩)
  go_loopw [6, 7] (fun vv ii wi => ∃ i : Nat, i ≤ 15 ∧ ii = .int .i64 (i : Int) ∧ Ext w wi ∧ Hid (wi.ownsRow w.heap.size 3 1 vv (enoughK er k i).length (ints (natI (enoughK er k i))))) (fun _ ii _ => 15 - (intOf ii).toNat)
  case atStart => exact ⟨0, Nat.zero_le _, rfl, h1, Lib.hid (by simp [enoughK, placesK, natI, ints]; exact World.ownsRow_nil _ _ _ _)⟩
  case round =>
    obtain ⟨i, hi, rfl, hE, hO⟩ := hrel
    obtain ⟨-, ao, ac, rfl, -⟩ := SlAt.of_owns hO.out
    by_cases h15 : i < 15
    · have p1 : decide ((i : Int) < 15) = true := decide_eq_true (by omega)
      obtain ⟨b, off, rfl, c0'⟩ := HC.out i h15
      have c0 := hE.get c0'
      have HSi := Lib.hid (HS.out i)
      have hli := HL.out i hi
      obtain ⟨z, hz⟩ : ∃ z, er.getD i false = z := ⟨_, rfl⟩
      rw [hz] at c0 HSi
      obtain ⟨n, hn⟩ : ∃ n, (enoughK er k i).length = n := ⟨_, rfl⟩
      obtain ⟨N, hN⟩ : ∃ n, enoughN er k = n := ⟨_, rfl⟩
      rw [hN] at HSi HN
      rw [hn] at hO HSi hli ⊢
      have HZ := Lib.hid (And.intro hz (And.intro hn hN))
      clear hz hn hN c0'
      cases z
      case true =>
        have HE := Lib.hid (show enoughK er k (i + 1) = enoughK er k i by rw [HSi.out, if_neg (fun h => by have := h.1; cases this)])
        go_wp2
        exact ⟨⟨i + 1, by omega, by go_num, hE, Lib.hid (by rw [HE.out, HZ.out.2.1]; exact hO.out)⟩, by simp [intOf]; omega⟩
      case false =>
        by_cases hnN : n < N
        · have q1 : decide ((n : Int) < (k : Int) + t) = true := decide_eq_true (by have := HN.out; omega)
          have HE := Lib.hid (show enoughK er k (i + 1) = enoughK er k i ++ [i] by rw [HSi.out, if_pos ⟨rfl, hnN⟩])
          clear hnN
          go_wp2_with (at_builtin; refine wpList_append_sl rfl _ _ 42 rfl w.heap.size 3 i3 (.int .i64 0) 1 8 Tryd.underlying42 ii iz0 iz1 iz2 rfl (by omega) (.slice ao n ac) n (ints (natI (enoughK er k i))) rfl (owns_ext hO.out ((Ext.refl _).alloc _)) _ 1 [.int .i64 (i : Int)] rfl (SlAt.of_owns (owns_lit wr [.int .i64 (i : Int)] 3 1 1 0 (Nat.zero_le _) (by unfold maxLen; omega) rfl)) (ints_oneCell' [(i : Int)]) (by unfold maxLen; omega) (by omega) (Nat.le_trans hE.size ((Ext.refl wr).alloc _).size) ?_; intro v2 w2 ho2 hg2)
          have hE2 : Ext w w2 := (hE.alloc _).grown hg2 (fun j hj => (hO.out.lt j hj).1)
          exact ⟨⟨i + 1, by omega, by go_num, hE2, Lib.hid (by
            rw [HE.out, List.length_append, HZ.out.2.1]
            have e : ints (natI (enoughK er k i ++ [i])) = ints (natI (enoughK er k i)) ++ [.int .i64 (i : Int)] := by simp [ints, natI]
            rw [e]
            exact ho2)⟩, by simp [intOf]; omega⟩
        · have q1 : decide ((n : Int) < (k : Int) + t) = false := decide_eq_false (by have := HN.out; omega)
          have HE := Lib.hid (show enoughK er k (i + 1) = enoughK er k i by rw [HSi.out, if_neg (fun h => hnN h.2)])
          clear hnN
          go_wp2
          exact ⟨⟨i + 1, by omega, by go_num, hE, Lib.hid (by rw [HE.out, HZ.out.2.1]; exact hO.out)⟩, by simp [intOf]; omega⟩
    · have p1 : decide ((i : Int) < 15) = false := decide_eq_false (by omega)
      have ei : i = 15 := by omega
      rw [ei] at hO ⊢
      have HO := hO
      clear ei hO
      go_wp2
      go_ret
      exact ⟨_, rfl, by show SlAt _ 1 _ (natI (enoughK er k 15)).length _; rw [natI_len]; exact SlAt.of_owns HO.out, hE⟩
end Go.Proofs.YtlnofbdhamingaaDoor
