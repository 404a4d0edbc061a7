/- Digits and their margins, modules of digits: the program's and the reference's. -/
import Derived.Test.YtlnofbdhamingaaNearRef
set_option linter.unusedVariables false
set_option linter.unusedSimpArgs false
namespace Go.Proofs.Ytlnofbdhamingaa
open Go.RowKit Go.Sort

/-- what both answer of a digit's modules -/
def glyphI (d : Int) : List Nat × Int := if 0 ≤ d ∧ d ≤ 9 then (glyphR d.toNat, 0) else ([], 2)
def BytesErr (r : List Nat × Int) (w : World) (e : Ending) (w' : World) : Prop := ∃ v', e = .returned (.tuple #[v', .int .i64 r.2]) ∧ BytesAt w' v' r.1 ∧ Ext w w'
theorem bytes_nil (w : World) : BytesAt w (.slice none 0 0) [] := SlAt.nil w 1
set_option maxRecDepth 100000 in
set_option maxHeartbeats 4000000 in
theorem r_Glyph (d : Int) (w : World) : Calls Try.prog 5 #[.int .i64 d] w (BytesErr (glyphI d) w) := by
  by_cases h : 0 ≤ d ∧ d ≤ 9
  · have HI := Lib.hid (show glyphI d = (glyphR d.toNat, 0) from if_pos h)
    obtain ⟨k, rfl⟩ := Int.eq_ofNat_of_zero_le h.1
    have hk : k < 10 := by omega
    have K := Lib.hid (r_Shaped k hk w)
    unfold OwnBytes at K
    have q1 : ¬ ((k : Int) < 0) := by omega
    have q2 : ¬ ((9 : Int) < (k : Int)) := by omega
    rw [Int.toNat_natCast] at HI
    clear h
    go_enter Try.func5, Try.ntmps5
    go_wp2_with (go_at_call 12; (with_reducible refine K.out.mono ?_); rintro E w1 ⟨v1, rfl, h0, h1⟩)
    go_ret2
    exact ⟨v1, by rw [HI.out]; rfl, by rw [HI.out]; exact BytesAt.of_owns h0, h1⟩
  · have HI := Lib.hid (show glyphI d = ([], 2) from if_neg h)
    by_cases q1 : d < 0
    · go_enter Try.func5, Try.ntmps5
      go_wp2
      go_ret2
      exact ⟨_, by rw [HI.out]; rfl, by rw [HI.out]; exact bytes_nil _, Ext.refl _⟩
    · have q2 : 9 < d := by omega
      go_enter Try.func5, Try.ntmps5
      go_wp2
      go_ret2
      exact ⟨_, by rw [HI.out]; rfl, by rw [HI.out]; exact bytes_nil _, Ext.refl _⟩
set_option maxRecDepth 100000 in
set_option maxHeartbeats 4000000 in
theorem c_Glyph (d : Int) (w : World) : Calls Try.prog 4 #[.int .i64 d] w (BytesErr (glyphI d) w) := by
  by_cases h : 0 ≤ d ∧ d ≤ 9
  · have HI := Lib.hid (show glyphI d = (glyphR d.toNat, 0) from if_pos h)
    obtain ⟨k, rfl⟩ := Int.eq_ofNat_of_zero_le h.1
    have hk : k < 10 := by omega
    have hgl := glyphR_length k hk
    have K := Lib.hid (c_glyph k hk w)
    rw [Int.toNat_natCast] at HI
    obtain ⟨g, hg⟩ : ∃ g, glyphR k = g := ⟨_, rfl⟩
    rw [hg] at K HI hgl
    have HG := Lib.hid hgl
    obtain ⟨z0, z1⟩ := zero_of_info info_arr
    have hst : ∀ w' : World, (storeCells ⟨w'.heap.size, 0, none⟩ (bytesL g) 0).run Try.prog (w'.alloc (.cells (Array.replicate 15 (.int .u8 0)) 43)) = .ok () (w'.alloc (.cells (bytesL g).toArray 43)) := fun (w' : World) => run_storeCells_new (P := Try.prog) w' 43 (Array.replicate 15 (.int .u8 0)) (bytesL g).toArray (by rw [List.size_toArray, bytesL_length, HG.out]; exact z1) (by show 15 = (bytesL g).length; rw [bytesL_length, HG.out]) (by rw [Array.all_eq_true']; intro x hx; exact bytes_oneCell' g x (by simpa using hx))
    have hbl : (bytesL g).length = 15 := by rw [bytesL_length, HG.out]
    have q1 : ¬ ((k : Int) < 0) := by omega
    have q2 : ¬ ((9 : Int) < (k : Int)) := by omega
    clear h hg hgl
    go_enter Try.func4, Try.ntmps4
    go_wp2_with (go_at_call 11; (with_reducible refine K.out.mono ?_); rintro E w1 ⟨rfl, h1⟩)
    go_ret2
    exact ⟨_, by rw [HI.out]; rfl, by rw [HI.out]; exact BytesAt.of_owns (by rw [HG.out]; exact owns_lit w1 (bytesL g) 43 15 1 w1.heap.size (Nat.le_refl _) (by unfold maxLen; omega) (by rw [bytesL_length, HG.out])), h1.alloc _⟩
  · have HI := Lib.hid (show glyphI d = ([], 2) from if_neg h)
    by_cases q1 : d < 0
    · go_enter Try.func4, Try.ntmps4
      go_wp2
      go_ret2
      exact ⟨_, by rw [HI.out]; rfl, by rw [HI.out]; exact bytes_nil _, Ext.refl _⟩
    · have q2 : 9 < d := by omega
      go_enter Try.func4, Try.ntmps4
      go_wp2
      go_ret2
      exact ⟨_, by rw [HI.out]; rfl, by rw [HI.out]; exact bytes_nil _, Ext.refl _⟩
/-- the nearest digit, its margin, and the error -/
def digitI (ms : List Nat) : (Nat × Nat) × Int := if ms.length = 15 ∧ maxU ms 14 ≤ 2 then (nearestR ms, 0) else ((0, 0), 2)
def ThreeInts (r : (Nat × Nat) × Int) (w : World) (e : Ending) (w' : World) : Prop := e = .returned (.tuple #[.int .i64 (r.1.1 : Nat), .int .i64 (r.1.2 : Nat), .int .i64 r.2]) ∧ Ext w w'
set_option maxRecDepth 100000 in
set_option maxHeartbeats 4000000 in
theorem c_Digit (v : Value) (ms : List Nat) (w : World) (hv : BytesAt w v ms) :
    Calls Try.prog 7 #[v] w (ThreeInts (digitI ms) w) := by
  by_cases hl : ms.length = 15
  · have K1 := c_maxU v ms w hv (by omega) (by omega)
    rw [hl] at K1
    have K2 := Lib.hid (fun w' (h : Ext w w') => c_nearest v ms w' (hv.ext h) hl)
    obtain ⟨m, hm⟩ : ∃ m, maxU ms 14 = m := ⟨_, rfl⟩
    have HD := Lib.hid (show digitI ms = if ms.length = 15 ∧ m ≤ 2 then (nearestR ms, 0) else ((0, 0), 2) by rw [← hm]; rfl)
    rw [show 15 - 1 = 14 from rfl, hm] at K1
    have K1 := Lib.hid K1
    obtain ⟨b0, off0, cap, rfl, -⟩ := hv.some hl (by omega)
    have HL := Lib.hid hl
    clear hl hm hv
    by_cases h : m ≤ 2
    · have HI := Lib.hid (show digitI ms = (nearestR ms, 0) by rw [HD.out, if_pos ⟨HL.out, h⟩])
      have q : ¬ ((2 : Int) < (m : Int)) := by omega
      clear h
      go_enter Try.func7, Try.ntmps7
      go_wp2_with (first
        | (go_at_call 13; (with_reducible refine K1.out.mono ?_); rintro E w1 ⟨rfl, h1⟩)
        | (go_at_call 14; (with_reducible refine (K2.out _ h1).mono ?_); rintro E w2 ⟨rfl, h2⟩))
      go_ret3
      exact ⟨by rw [HI.out]; rfl, h1.trans h2⟩
    · have HI := Lib.hid (show digitI ms = ((0, 0), 2) by rw [HD.out, if_neg (fun h9 => h h9.2)])
      have q : (2 : Int) < (m : Int) := by omega
      clear h
      go_enter Try.func7, Try.ntmps7
      go_wp2_with (go_at_call 13; (with_reducible refine K1.out.mono ?_); rintro E w1 ⟨rfl, h1⟩)
      go_ret3
      exact ⟨by rw [HI.out]; rfl, h1⟩
  · have HI := Lib.hid (show digitI ms = ((0, 0), 2) from if_neg (fun h9 => hl h9.1))
    obtain ⟨ao, cap, rfl, -, -⟩ := hv.form
    have q : ((ms.length : Int) != 15) = true := by rw [bne_iff_ne]; omega
    have HL := Lib.hid hl
    clear hl hv
    go_enter Try.func7, Try.ntmps7
    go_wp2
    go_ret3
    exact ⟨by rw [HI.out]; rfl, Ext.refl _⟩
set_option maxRecDepth 100000 in
set_option maxHeartbeats 4000000 in
theorem r_Digit (v : Value) (ms : List Nat) (w : World) (hv : BytesAt w v ms) :
    Calls Try.prog 8 #[v] w (ThreeInts (digitI ms) w) := by
  by_cases hl : ms.length = 15
  · have K2 := Lib.hid (fun w' (h : Ext w w') => r_Nearest v ms w' (hv.ext h) hl)
    have HD := Lib.hid (show digitI ms = if ms.length = 15 ∧ maxU ms 14 ≤ 2 then (nearestR ms, 0) else ((0, 0), 2) from rfl)
    have HG := Lib.hid (maxU_ge ms 14)
    have HN := Lib.hid (maxU_in ms 14)
    obtain ⟨b0, off0, cap, rfl, hc⟩ := hv.some hl (by omega)
    have HC := Lib.hid hc
    have HL := Lib.hid hl
    clear hl hv hc
    go_enter Try.func8, Try.ntmps8
    go_wp2
    go_loopw [5] (fun i wr => ∃ k : Nat, k ≤ 15 ∧ i = .int .i64 (k : Int) ∧ Ext w wr ∧ Hid (∀ j < k, ms.getD j 0 ≤ 2)) (fun i _ => 15 - (intOf i).toNat)
    case atStart => exact ⟨0, by omega, rfl, Ext.refl _, Lib.hid fun j hj => absurd hj (Nat.not_lt_zero _)⟩
    case round =>
      obtain ⟨k, hk, rfl, hE, hA⟩ := hrel
      by_cases hkl : k < 15
      · have c0 := hE.get (HC.out k hkl)
        obtain ⟨x, hx⟩ : ∃ x, ms.getD k 0 = x := ⟨_, rfl⟩
        rw [hx] at c0
        have HX := Lib.hid hx
        clear hx
        by_cases h : x ≤ 2
        · have q : ¬ ((2 : Int) < (x : Int)) := by omega
          have HH := Lib.hid h
          clear h
          go_wp2
          exact ⟨⟨k + 1, by omega, by go_num, hE, Lib.hid fun j hj => by
            rcases Nat.lt_or_ge j k with h9 | h9
            · exact hA.out j h9
            · obtain rfl : j = k := by omega
              rw [HX.out]; exact HH.out⟩, by simp [intOf]; omega⟩
        · have q : (2 : Int) < (x : Int) := by omega
          have HI := Lib.hid (show digitI ms = ((0, 0), 2) by
            rw [HD.out, if_neg]
            rintro ⟨-, h9⟩
            have := HG.out k (by omega)
            rw [HX.out] at this
            omega)
          clear h
          go_wp2
          go_ret3
          exact ⟨by rw [HI.out]; rfl, hE⟩
      · obtain rfl : k = 15 := by omega
        have HI := Lib.hid (show digitI ms = (nearestR ms, 0) by
          obtain ⟨j, hj, e⟩ := HN.out
          have := hA.out j (by omega)
          rw [HD.out, if_pos ⟨HL.out, by omega⟩])
        go_wp2_with (go_at_call 15; (with_reducible refine (K2.out _ hE).mono ?_); rintro E w2 ⟨rfl, h2⟩)
        go_ret3
        exact ⟨by rw [HI.out]; rfl, hE.trans h2⟩
  · have HI := Lib.hid (show digitI ms = ((0, 0), 2) from if_neg (fun h9 => hl h9.1))
    obtain ⟨ao, cap, rfl, -, -⟩ := hv.form
    have q : ((ms.length : Int) != 15) = true := by rw [bne_iff_ne]; omega
    have HL := Lib.hid hl
    clear hl hv
    go_enter Try.func8, Try.ntmps8
    go_wp2
    go_ret3
    exact ⟨by rw [HI.out]; rfl, Ext.refl _⟩
end Go.Proofs.Ytlnofbdhamingaa
