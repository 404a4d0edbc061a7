/- Joined from the parts TextFn, PrintPlain, TrimFn, PrintC. -/
import Derived.Test.YtlnofbdhamingaaDoorGDraw
import Derived.Test.YtlnofbdhamingaaDoorGPaint
import Derived.Lib.SlTrimSet
import Derived.Test.YtlnofbdhamingaaDoorShelfT
set_option linter.unusedVariables false
set_option linter.unusedSimpArgs false
/- Lines of digits as texts: the reference's. -/
namespace Go.Proofs.YtlnofbdhamingaaDoor
open Go.RowKit Go.Sort

def isDig (b : UInt8) : Prop := 48 ≤ b.toNat ∧ b.toNat ≤ 57
instance (b : UInt8) : Decidable (isDig b) := by unfold isDig; infer_instance
def LineOk (s : ByteArray) : Prop := (∀ b ∈ s.data.toList, isDig b) ∧ 1 ≤ s.size ∧ s.size ≤ 4
instance (s : ByteArray) : Decidable (LineOk s) := by unfold LineOk; infer_instance
theorem byte_mem (s : ByteArray) (k : Nat) (h : k < s.size) : s[k]'h ∈ s.data.toList := by
  have : (s[k]'h) = s.data.toList[k]'(by rw [Array.length_toList]; exact h) := rfl
  rw [this]
  exact List.getElem_mem _
set_option maxRecDepth 100000 in
set_option maxHeartbeats 4000000 in
theorem r_Line (s : ByteArray) (w : World) (hs : s.size ≤ maxLen) : Calls Tryd.prog 47 #[.string s] w fun e w' => e = .returned (.bool (decide (LineOk s))) ∧ Ext w w' := by
  have hm : s.size ≤ 9223372036854775807 := hs
  go_enter Tryd.func47, Tryd.ntmps47
  go_wp2
  go_loopw [3] (fun i wr => ∃ k : Nat, k ≤ s.size ∧ i = .int .i64 (k : Int) ∧ Ext w wr ∧ Hid (∀ j (h : j < s.size), j < k → isDig (s[j]'h))) (fun i _ => s.size - (intOf i).toNat)
  case atStart => exact ⟨0, Nat.zero_le _, rfl, Ext.refl _, Lib.hid fun j _ hj => absurd hj (Nat.not_lt_zero _)⟩
  case round =>
    obtain ⟨k, hk, rfl, hE, hA⟩ := hrel
    by_cases hkl : k < s.size
    · have HM := Lib.hid (byte_mem s k hkl)
      obtain ⟨x, hx⟩ : ∃ x : UInt8, s[k]'hkl = x := ⟨_, rfl⟩
      rw [hx] at HM
      have HX := Lib.hid hx
      by_cases h1 : (x.toNat : Int) < 48
      · have HN := Lib.hid (show ¬ LineOk s from fun h => by have := (h.1 x HM.out).1; omega)
        go_wp2
        go_ret
        exact ⟨ret_bool (decide_eq_false HN.out).symm, hE⟩
      · by_cases h2 : (57 : Int) < (x.toNat : Int)
        · have HN := Lib.hid (show ¬ LineOk s from fun h => by have := (h.1 x HM.out).2; omega)
          go_wp2
          go_ret
          exact ⟨ret_bool (decide_eq_false HN.out).symm, hE⟩
        · have HD := Lib.hid (show isDig x from ⟨by omega, by omega⟩)
          go_wp2
          exact ⟨⟨k + 1, by omega, by go_num, hE, Lib.hid fun j h hj => by
            rcases Nat.lt_or_ge j k with h9 | h9
            · exact hA.out j h h9
            · obtain rfl : j = k := by omega
              rw [HX.out]; exact HD.out⟩, by simp [intOf]; omega⟩
    · obtain rfl : k = s.size := by omega
      have HAll := Lib.hid (show ∀ b ∈ s.data.toList, isDig b from fun b hb => by
        obtain ⟨j, hj, rfl⟩ := List.getElem_of_mem hb
        have hj' : j < s.size := by rw [Array.length_toList] at hj; exact hj
        exact hA.out j hj' hj')
      go_wp2
      all_goals (go_ret; refine ⟨ret_bool ?_, hE⟩; first | (symm; refine decide_eq_false ?_; intro h; have := h.2; omega) | (refine decide_eq_decide.2 ⟨fun h => ⟨HAll.out, by omega, by omega⟩, fun h => by have := h.2; omega⟩) | (symm; refine decide_eq_true ⟨HAll.out, by omega, by omega⟩))
end Go.Proofs.YtlnofbdhamingaaDoor

/- The modules of a line of digits: plain. -/
namespace Go.Proofs.YtlnofbdhamingaaDoor
open Go.RowKit Go.Sort

/-- the digits of a text -/
def digsOf (s : ByteArray) : List Nat := s.data.toList.map fun b => b.toNat - 48
theorem digsOf_len (s : ByteArray) : (digsOf s).length = s.size := by simp [digsOf]
theorem digsOf_get {s : ByteArray} {n : Nat} (h : n < s.size) : (digsOf s).getD n 0 = (s[n]'h).toNat - 48 := by
  unfold digsOf
  rw [List.getD_eq_getElem?_getD, List.getElem?_map, List.getElem?_eq_getElem (by rw [Array.length_toList]; exact h)]
  rfl
theorem digs_lt {s : ByteArray} (hs : LineOk s) (n : Nat) (h : n < s.size) : (digsOf s).getD n 0 < 10 ∧ 48 ≤ (s[n]'h).toNat ∧ (s[n]'h).toNat ≤ 57 := by
  have := hs.1 _ (byte_mem s n h)
  unfold isDig at this
  rw [digsOf_get h]
  omega
/-- a module of a line, the digits before n and the first i modules of the digit n painted -/
def printE (ds : List Nat) (W n i j : Nat) : Nat := if j % W % 4 < 3 ∧ (j % W / 4 < n ∨ (j % W / 4 = n ∧ j / W * 3 + j % W % 4 < i)) then (glyphR (ds.getD (j % W / 4) 0)).getD (j / W * 3 + j % W % 4) 0 else 0
def printK (ds : List Nat) (W n i : Nat) : List Nat := (List.range (5 * W)).map (printE ds W n i)
def printR (ds : List Nat) (W : Nat) : List Nat := printK ds W ds.length 0
theorem printK_len (ds : List Nat) (W n i : Nat) : (printK ds W n i).length = 5 * W := by simp [printK]
theorem printK_get {ds : List Nat} {W n i j : Nat} (h : j < 5 * W) : (printK ds W n i).getD j 0 = printE ds W n i j := by
  rw [List.getD_eq_getElem?_getD, printK, List.getElem?_map, List.getElem?_range h]; rfl
theorem printK_zero (ds : List Nat) (W : Nat) : printK ds W 0 0 = List.replicate (5 * W) 0 := by
  refine List.ext_getElem? fun j => ?_
  unfold printK
  rcases Nat.lt_or_ge j (5 * W) with h | h
  · rw [List.getElem?_map, List.getElem?_range h, List.getElem?_replicate, if_pos h, Option.map_some]
    unfold printE
    rw [if_neg (by omega)]
  · rw [List.getElem?_eq_none (by simpa using h), List.getElem?_replicate, if_neg (by omega)]
theorem printK_next (ds : List Nat) {W n : Nat} : printK ds W n 15 = printK ds W (n + 1) 0 := by
  unfold printK
  refine List.map_congr_left fun j hj => ?_
  have hj := List.mem_range.1 hj
  have hr : j / W < 5 := Nat.div_lt_of_lt_mul (by rw [Nat.mul_comm]; exact hj)
  have e : (j % W % 4 < 3 ∧ (j % W / 4 < n ∨ (j % W / 4 = n ∧ j / W * 3 + j % W % 4 < 15))) ↔ (j % W % 4 < 3 ∧ (j % W / 4 < n + 1 ∨ (j % W / 4 = n + 1 ∧ j / W * 3 + j % W % 4 < 0))) := by omega
  unfold printE
  simp only [e]
/-- where the module i of the digit n lies -/
def atP (W n i : Nat) : Nat := i / 3 * W + 4 * n + i % 3
theorem atP_is {W n i L : Nat} (hW : W + 1 = 4 * L) (hn : n < L) (hi : i < 15) : atP W n i < 5 * W ∧ atP W n i / W = i / 3 ∧ atP W n i % W = 4 * n + i % 3 := by
  have h1 : 4 * n + i % 3 < W := by omega
  have h2 : atP W n i = W * (i / 3) + (4 * n + i % 3) := by unfold atP; rw [Nat.mul_comm]; omega
  have h3 : (i / 3 + 1) * W ≤ 5 * W := Nat.mul_le_mul_right _ (by omega)
  refine ⟨?_, ?_, ?_⟩
  · rw [h2, Nat.mul_comm]; rw [Nat.succ_mul] at h3; omega
  · rw [h2, Nat.mul_add_div (by omega), Nat.div_eq_of_lt h1, Nat.add_zero]
  · rw [h2, Nat.mul_add_mod, Nat.mod_eq_of_lt h1]
theorem printK_set {ds : List Nat} {W n i L : Nat} (hW : W + 1 = 4 * L) (hn : n < L) (hi : i < 15) : (printK ds W n i).set (atP W n i) ((glyphR (ds.getD n 0)).getD i 0) = printK ds W n (i + 1) := by
  obtain ⟨p1, p2, p3⟩ := atP_is hW hn hi
  have hWp : 0 < W := by omega
  refine List.ext_getElem? fun j => ?_
  rcases Nat.lt_or_ge j (5 * W) with hj | hj
  · by_cases e : atP W n i = j
    · subst e
      rw [List.getElem?_set_self (by rw [printK_len]; exact hj)]
      unfold printK
      rw [List.getElem?_map, List.getElem?_range hj, Option.map_some]
      unfold printE
      rw [p2, p3, if_pos (by omega)]
      congr 2
      · congr 2; omega
      · omega
    · rw [List.getElem?_set_ne e]
      unfold printK
      rw [List.getElem?_map, List.getElem?_map, List.getElem?_range hj, Option.map_some, Option.map_some]
      congr 1
      have hd : j = W * (j / W) + j % W := (Nat.div_add_mod j W).symm
      have hx : ¬ (j % W % 4 < 3 ∧ j % W / 4 = n ∧ j / W * 3 + j % W % 4 = i) := fun ⟨h1, h2, h3⟩ => e (by
        unfold atP
        have hq : j / W = i / 3 := by omega
        have hm : j % W = 4 * n + i % 3 := by omega
        rw [hq, hm] at hd
        rw [hd, Nat.mul_comm]
        omega)
      have key : (j % W % 4 < 3 ∧ (j % W / 4 < n ∨ (j % W / 4 = n ∧ j / W * 3 + j % W % 4 < i))) ↔ (j % W % 4 < 3 ∧ (j % W / 4 < n ∨ (j % W / 4 = n ∧ j / W * 3 + j % W % 4 < i + 1))) := by omega
      unfold printE
      simp only [key]
  · rw [List.getElem?_eq_none (by rw [List.length_set, printK_len]; exact hj), List.getElem?_eq_none (by rw [printK_len]; exact hj)]
/-! ### what is printed -/
def printI (s : ByteArray) (sz ink paper : Int) : Img × Int :=
  if LineOk s then (if ColOk sz ink paper then (if (4 * (s.size : Int) - 1) * sz ≤ 16 then
    (⟨(((4 * s.size - 1) * sz.toNat : Nat) : Int), ((5 * sz.toNat : Nat) : Int), paintedR (printR (digsOf s) (4 * s.size - 1)) ((4 * s.size - 1) * sz.toNat) sz.toNat ink paper ((4 * s.size - 1) * sz.toNat * (5 * sz.toNat))⟩, 0)
    else (⟨0, 0, []⟩, 21)) else (⟨0, 0, []⟩, 2)) else (⟨0, 0, []⟩, 61)
theorem printI_def (s : ByteArray) (sz ink paper : Int) : printI s sz ink paper = if LineOk s then (if ColOk sz ink paper then (if (4 * (s.size : Int) - 1) * sz ≤ 16 then
    (⟨(((4 * s.size - 1) * sz.toNat : Nat) : Int), ((5 * sz.toNat : Nat) : Int), paintedR (printR (digsOf s) (4 * s.size - 1)) ((4 * s.size - 1) * sz.toNat) sz.toNat ink paper ((4 * s.size - 1) * sz.toNat * (5 * sz.toNat))⟩, (0 : Int))
    else (⟨0, 0, []⟩, (21 : Int))) else (⟨0, 0, []⟩, (2 : Int))) else (⟨0, 0, []⟩, (61 : Int)) := rfl
/-! ### trimming -/
def digitsB : ByteArray := { data := #[48, 49, 50, 51, 52, 53, 54, 55, 56, 57] }
theorem mem_digits (b : UInt8) : digitsB.data.toList.contains b = true ↔ isDig b := by
  have h : ∀ n : Fin 256, digitsB.data.toList.contains (UInt8.ofNat n) = true ↔ isDig (UInt8.ofNat n) := by decide +kernel
  have := h ⟨b.toNat, UInt8.toNat_lt b⟩
  simpa using this
theorem dropWhile_nil {α : Type} {p : α → Bool} : ∀ {l : List α}, l.dropWhile p = [] ↔ ∀ x ∈ l, p x = true
  | [] => by simp
  | a :: l => by
    rw [List.dropWhile_cons]
    cases h : p a with
    | true =>
      simp only [if_true]
      rw [dropWhile_nil]
      simp [h]
    | false =>
      simp only [Bool.false_eq_true, if_false]
      constructor
      · intro h9; cases h9
      · intro h9; have := h9 a (by simp); rw [h] at this; cases this
theorem trim_nil (l : List UInt8) : Lib.trimS l digitsB.data.toList = [] ↔ ∀ b ∈ l, isDig b := by
  unfold Lib.trimS Lib.trimLeftS Lib.trimRightS
  rw [dropWhile_nil]
  constructor
  · intro h b hb
    refine Classical.byContradiction fun hn => ?_
    have hnc : ¬ digitsB.data.toList.contains b = true := fun h9 => hn ((mem_digits b).1 h9)
    have hmem : b ∈ (l.reverse.dropWhile fun x => digitsB.data.toList.contains x) := by
      have key : ∀ l : List UInt8, b ∈ l → b ∈ l.dropWhile fun x => digitsB.data.toList.contains x := by
        intro l
        induction l with
        | nil => intro h; cases h
        | cons a l ih =>
          intro h
          rw [List.dropWhile_cons]
          split
          · rename_i h1
            rcases List.mem_cons.1 h with rfl | h2
            · exact absurd h1 hnc
            · exact ih h2
          · exact h
      exact key _ (by simpa using hb)
    exact hnc (h b (by simpa using hmem))
  · intro h b hb
    refine (mem_digits b).2 (h b ?_)
    have : b ∈ l.reverse.dropWhile fun x => digitsB.data.toList.contains x := by simpa using hb
    have := (List.dropWhile_sublist _).mem this
    simpa using this
end Go.Proofs.YtlnofbdhamingaaDoor

/- Trimming of a text by the ten digits. -/
namespace Go.Proofs.YtlnofbdhamingaaDoor
open Go.RowKit Go.Sort

theorem c_Trim (s : ByteArray) (w : World) (hs : s.size ≤ maxLen) : Calls Tryd.prog 81 #[.string s, .string { data := #[48, 49, 50, 51, 52, 53, 54, 55, 56, 57] }] w fun e w' => e = .returned (.string ⟨(Lib.trimS s.data.toList digitsB.data.toList).toArray⟩) ∧ Ext w w' :=
  Any.strings_Trim_laid Tryd.lays160 (by kernel_rfl) s digitsB w hs (by decide) (ascii_of_all (by decide))
end Go.Proofs.YtlnofbdhamingaaDoor

/- The image of a line of digits: the program's walk. -/
namespace Go.Proofs.YtlnofbdhamingaaDoor
open Go.RowKit Go.Sort

set_option maxRecDepth 100000 in
set_option maxHeartbeats 8000000 in
theorem c_Print (s : ByteArray) (sz ink paper : Int) (w : World) (hs : s.size ≤ maxLen) :
    Calls Tryd.prog 36 #[.string s, .int .i64 sz, .int .i64 ink, .int .i64 paper] w (ImgErr (printI s sz ink paper) w) := by
  obtain ⟨i0, hi, hz0, hz1, hz2⟩ := info_parts3 info_byte
  have K1 := Lib.hid (fun w' => c_Trim s w' hs)
  have K2 := Lib.hid (fun w' => c_colours sz ink paper w')
  have HD := Lib.hid (printI_def s sz ink paper)
  have hsm : s.size ≤ 9223372036854775807 := hs
  by_cases h1 : s.size < 1
  · have HI := Lib.hid (show printI s sz ink paper = (⟨0, 0, []⟩, 61) by rw [HD.out, if_neg (fun h => by have := h.2.1; omega)])
    go_enter Tryd.func36, Tryd.ntmps36
    go_wp2
    (refine bodyPost_ret (results_row2 rfl _ _ _ _ _ (0, 0) _ rfl (one_first w _) Tryd.underlying44 rfl (by kernel_rfl)) rfl ?_; exact ⟨_, by rw [HI.out]; rfl, by rw [HI.out]; exact SlAt.nil _ 1, (Ext.refl w).alloc _⟩)
  by_cases h2 : 4 < s.size
  · have HI := Lib.hid (show printI s sz ink paper = (⟨0, 0, []⟩, 61) by rw [HD.out, if_neg (fun h => by have := h.2.2; omega)])
    go_enter Tryd.func36, Tryd.ntmps36
    go_wp2
    (refine bodyPost_ret (results_row2 rfl _ _ _ _ _ (0, 0) _ rfl (one_first w _) Tryd.underlying44 rfl (by kernel_rfl)) rfl ?_; exact ⟨_, by rw [HI.out]; rfl, by rw [HI.out]; exact SlAt.nil _ 1, (Ext.refl w).alloc _⟩)
  have HTN := Lib.hid (trim_nil s.data.toList)
  obtain ⟨tl, htl⟩ : ∃ x, Lib.trimS s.data.toList digitsB.data.toList = x := ⟨_, rfl⟩
  rw [htl] at K1 HTN
  obtain ⟨ts, hts⟩ : ∃ x : ByteArray, (⟨tl.toArray⟩ : ByteArray) = x := ⟨_, rfl⟩
  rw [hts] at K1
  by_cases hd : tl = []
  case neg =>
    have HI := Lib.hid (show printI s sz ink paper = (⟨0, 0, []⟩, 61) by rw [HD.out, if_neg (fun h => hd (HTN.out.2 h.1))])
    have q : ts.toList.isEmpty = false := by
      rw [← hts, Lib.toList_data]
      show tl.toArray.toList.isEmpty = false
      rw [List.toList_toArray]
      cases tl with
      | nil => exact absurd rfl hd
      | cons => rfl
    clear hd hts htl
    go_enter Tryd.func36, Tryd.ntmps36
    go_wp2_with ((go_at_call 81; (with_reducible refine (K1.out _).mono ?_); rintro E w1 ⟨rfl, h1⟩; have A1 := Lib.hid (show At w1 [(w.heap.size, Obj.cells #[.int .i64 0, .int .i64 0, .slice none 0 0] 44)] from At.ext h1 ⟨one_first _ _, trivial⟩); have E1 := Lib.hid (show Ext w w1 from ((Ext.refl w).alloc _).trans h1); obtain ⟨⟨z0, z1, z2⟩, zf0, zf1, zf2⟩ := run_3 (At.at A1.out 0 rfl); have b0 := At.lt A1.out 0 rfl))
    (have st := store_3 (v0 := .int .i64 0) (v1 := .int .i64 0) (v2 := .slice none 0 0) (At.at A1.out 0 rfl); refine bodyPost_ret (results_row2 rfl _ _ _ _ _ (0, 0) _ rfl st.1 Tryd.underlying44 rfl (by kernel_rfl)) rfl ?_; exact ⟨_, by rw [HI.out]; rfl, by rw [HI.out]; exact SlAt.nil _ 1, st.2.2 w (Nat.le_refl _) E1.out⟩)
  have q : ts.toList.isEmpty = true := by
    rw [← hts, Lib.toList_data]
    show tl.toArray.toList.isEmpty = true
    rw [List.toList_toArray, hd]
    rfl
  have hok : LineOk s := ⟨HTN.out.1 hd, by omega, by omega⟩
  have HOK := Lib.hid hok
  have hD1 := Lib.hid (HD.out.trans (if_pos hok))
  clear hd hts htl HTN HD hok
  by_cases hc : ColOk sz ink paper
  case neg =>
    have HI := Lib.hid (show printI s sz ink paper = (⟨0, 0, []⟩, 2) by rw [hD1.out, if_neg hc])
    rw [decide_eq_false hc] at K2
    clear hc
    go_enter Tryd.func36, Tryd.ntmps36
    go_wp2_with (first | (go_at_call 81; (with_reducible refine (K1.out _).mono ?_); rintro E w1 ⟨rfl, h1⟩; have A1 := Lib.hid (show At w1 [(w.heap.size, Obj.cells #[.int .i64 0, .int .i64 0, .slice none 0 0] 44)] from At.ext h1 ⟨one_first _ _, trivial⟩); have E1 := Lib.hid (show Ext w w1 from ((Ext.refl w).alloc _).trans h1); obtain ⟨⟨z0, z1, z2⟩, zf0, zf1, zf2⟩ := run_3 (At.at A1.out 0 rfl); have b0 := At.lt A1.out 0 rfl) | (go_at_call 76; (with_reducible refine (K2.out _).mono ?_); rintro E w2 ⟨rfl, h2⟩; have A2 := Lib.hid (At.ext h2 A1.out); have E2 := Lib.hid (E1.out.trans h2); clear z0 z1 z2 zf0 zf1 zf2 b0; obtain ⟨⟨z0, z1, z2⟩, zf0, zf1, zf2⟩ := run_3 (At.at A2.out 0 rfl); have b0 := At.lt A2.out 0 rfl))
    (have st := store_3 (v0 := .int .i64 0) (v1 := .int .i64 0) (v2 := .slice none 0 0) (At.at A2.out 0 rfl); refine bodyPost_ret (results_row2 rfl _ _ _ _ _ (0, 0) _ rfl st.1 Tryd.underlying44 rfl (by kernel_rfl)) rfl ?_; exact ⟨_, by rw [HI.out]; rfl, by rw [HI.out]; exact SlAt.nil _ 1, st.2.2 w (Nat.le_refl _) E2.out⟩)
  have hD2 := Lib.hid (hD1.out.trans (if_pos hc))
  rw [decide_eq_true hc] at K2
  obtain ⟨S, rfl⟩ := Int.eq_ofNat_of_zero_le (show 0 ≤ sz by have := hc.1; omega)
  have hS : 1 ≤ S ∧ S ≤ 2 := by have := hc.1; omega
  obtain ⟨W, hW⟩ : ∃ n, 4 * s.size - 1 = n := ⟨_, rfl⟩
  have hW2 : W + 1 = 4 * s.size := by omega
  rw [hW, Int.toNat_natCast] at hD2
  have q4 : 4 * (s.size : Int) - 1 = (W : Int) := by omega
  rw [q4] at hD2
  have hw15 : W ≤ 15 ∧ 3 ≤ W := by omega
  obtain ⟨ww, hww⟩ : ∃ n, W * S = n := ⟨_, rfl⟩
  have q5 : (W : Int) * (S : Int) = (ww : Int) := by rw [← hww]; exact (Int.natCast_mul W S).symm
  rw [hww, q5] at hD2
  have hwwb : ww ≤ 32 := by rw [← hww]; exact Nat.mul_le_mul (show W ≤ 16 by omega) hS.2
  have HWW := Lib.hid hww
  have HW2 := Lib.hid hW2
  clear hc hD1 hW hww hW2
  by_cases h16 : (ww : Int) ≤ 16
  case neg =>
    have HI := Lib.hid (show printI s (S : Int) ink paper = (⟨0, 0, []⟩, 21) by rw [hD2.out, if_neg h16])
    have h17 : (16 : Int) < (ww : Int) := by omega
    clear h16
    go_enter Tryd.func36, Tryd.ntmps36
    go_wp2_with (first | (go_at_call 81; (with_reducible refine (K1.out _).mono ?_); rintro E w1 ⟨rfl, h1⟩; have A1 := Lib.hid (show At w1 [(w.heap.size, Obj.cells #[.int .i64 0, .int .i64 0, .slice none 0 0] 44)] from At.ext h1 ⟨one_first _ _, trivial⟩); have E1 := Lib.hid (show Ext w w1 from ((Ext.refl w).alloc _).trans h1); obtain ⟨⟨z0, z1, z2⟩, zf0, zf1, zf2⟩ := run_3 (At.at A1.out 0 rfl); have b0 := At.lt A1.out 0 rfl) | (go_at_call 76; (with_reducible refine (K2.out _).mono ?_); rintro E w2 ⟨rfl, h2⟩; have A2 := Lib.hid (At.ext h2 A1.out); have E2 := Lib.hid (E1.out.trans h2); clear z0 z1 z2 zf0 zf1 zf2 b0; obtain ⟨⟨z0, z1, z2⟩, zf0, zf1, zf2⟩ := run_3 (At.at A2.out 0 rfl); have b0 := At.lt A2.out 0 rfl))
    (have st := store_3 (v0 := .int .i64 0) (v1 := .int .i64 0) (v2 := .slice none 0 0) (At.at A2.out 0 rfl); refine bodyPost_ret (results_row2 rfl _ _ _ _ _ (0, 0) _ rfl st.1 Tryd.underlying44 rfl (by kernel_rfl)) rfl ?_; exact ⟨_, by rw [HI.out]; rfl, by rw [HI.out]; exact SlAt.nil _ 1, st.2.2 w (Nat.le_refl _) E2.out⟩)
  have hn16 : ¬ (16 : Int) < (ww : Int) := by omega
  have HI := Lib.hid (show printI s (S : Int) ink paper = (⟨(ww : Int), ((5 * S : Nat) : Int), paintedR (printR (digsOf s) W) ww S ink paper (ww * (5 * S))⟩, 0) by rw [hD2.out, if_pos h16])
  obtain ⟨N5, hN5⟩ : ∃ n, 5 * W = n := ⟨_, rfl⟩
  have q6 : 5 * (W : Int) = (N5 : Int) := by omega
  have HN5 := Lib.hid hN5
  have hn5 : N5 ≤ 75 := by omega
  clear hD2 hN5
  go_enter Tryd.func36, Tryd.ntmps36
  go_wp2_with (first | (go_at_call 81; (with_reducible refine (K1.out _).mono ?_); rintro E w1 ⟨rfl, h1⟩; have A1 := Lib.hid (show At w1 [(w.heap.size, Obj.cells #[.int .i64 0, .int .i64 0, .slice none 0 0] 44)] from At.ext h1 ⟨one_first _ _, trivial⟩); have E1 := Lib.hid (show Ext w w1 from ((Ext.refl w).alloc _).trans h1); obtain ⟨⟨z0, z1, z2⟩, zf0, zf1, zf2⟩ := run_3 (At.at A1.out 0 rfl); have b0 := At.lt A1.out 0 rfl) | (go_at_call 76; (with_reducible refine (K2.out _).mono ?_); rintro E w2 ⟨rfl, h2⟩; have A2 := Lib.hid (At.ext h2 A1.out); have E2 := Lib.hid (E1.out.trans h2); clear z0 z1 z2 zf0 zf1 zf2 b0; obtain ⟨⟨z0, z1, z2⟩, zf0, zf1, zf2⟩ := run_3 (At.at A2.out 0 rfl); have b0 := At.lt A2.out 0 rfl) | (at_make; refine wpList_make_full _ rfl _ _ 22 rfl w2.heap.size 5 i0 (.int .u8 0) 1 Tryd.underlying22 hi hz0 hz1 .i64 .i64 _ _ N5 rfl rfl rfl rfl (by rw [hz2]; omega) (by unfold maxLen; omega) (Nat.le_refl _) ?_; intro w3 ho3 hg3; rw [made_zero (List.replicate N5 0) N5, rowK_zero, show List.replicate N5 (Value.int .u8 0) = bytesL (List.replicate N5 0) by simp [bytesL]] at ho3; have h3 : Ext w2 w3 := ext_of_grownNone hg3; have HO3 := Lib.hid ho3; clear ho3 hg3))
  obtain ⟨G, hG⟩ : ∃ G, w2.heap.size = G := ⟨_, rfl⟩
  have hgw : w.heap.size < G := by rw [← hG]; exact At.lt A2.out 0 rfl
  rw [hG] at HO3 ⊢
  have HM3 := Lib.hid (show w3.ownsRow G 5 1 (.slice (some ⟨G, 0, none⟩) N5 N5) N5 (bytesL (printK (digsOf s) W 0 0)) by rw [printK_zero, HN5.out]; exact HO3.out)
  have HE3 := Lib.hid (E2.out.trans h3)
  have HA3 := Lib.hid (At.ext h3 A2.out)
  clear HO3 h3 z0 z1 z2 zf0 zf1 zf2 b0 A1 A2 E1 E2 h1 h2 hG K1 K2 q
  go_loopw [49] (fun ii wi => ∃ n : Nat, n ≤ s.size ∧ ii = .int .i64 (n : Int) ∧ Ext w wi ∧ Hid (At wi [(w.heap.size, Obj.cells #[.int .i64 0, .int .i64 0, .slice none 0 0] 44)]) ∧ Hid (wi.ownsRow G 5 1 (.slice (some ⟨G, 0, none⟩) N5 N5) N5 (bytesL (printK (digsOf s) W n 0)))) (fun ii _ => s.size - (intOf ii).toNat)
  case atStart => exact ⟨0, Nat.zero_le _, rfl, HE3.out, HA3, HM3⟩
  case round =>
    clear HM3 HE3 HA3
    obtain ⟨n, hn, rfl, hE, hA, hM⟩ := hrel
    by_cases hnl : n < s.size
    · obtain ⟨d1, d2, d3⟩ := digs_lt HOK.out n hnl
      have hdg := digsOf_get hnl
      obtain ⟨x, hx⟩ : ∃ x : UInt8, s[n]'hnl = x := ⟨_, rfl⟩
      rw [hx] at d2 d3 hdg
      obtain ⟨d, hd⟩ : ∃ d, (digsOf s).getD n 0 = d := ⟨_, rfl⟩
      rw [hd] at d1 hdg
      have q7 : (x.toNat : Int) - 48 = (d : Int) := by omega
      have KG := Lib.hid (fun w' => c_glyph d d1 w')
      have HGL := Lib.hid (glyphR_length d d1)
      have HPS := Lib.hid (fun i (h : i < 15) => printK_set (ds := digsOf s) HW2.out hnl h)
      simp only [hd] at HPS
      have HPN := Lib.hid (printK_next (digsOf s) (W := W) (n := n))
      have HDX := Lib.hid (And.intro hd hdg)
      obtain ⟨g, hg⟩ : ∃ g, glyphR d = g := ⟨_, rfl⟩
      rw [hg] at KG HGL
      simp only [hg] at HPS
      have HAT := Lib.hid (fun i (h : i < 15) => (atP_is (n := n) (i := i) HW2.out hnl h).1)
      clear hd hdg hg
      have hx2 := hx
      go_wp2_with (go_at_call 82; (with_reducible refine (KG.out _).mono ?_); rintro E w4 ⟨rfl, h4⟩)
      have hE4 := Lib.hid (hE.trans h4)
      have hA4 := Lib.hid (At.ext h4 hA.out)
      have hM4 := Lib.hid (owns_ext hM.out h4)
      clear hE hA hM h4
      go_loopw [58] (fun ii wi => ∃ i : Nat, i ≤ 15 ∧ ii = .int .i64 (i : Int) ∧ Ext w wi ∧ Hid (At wi [(w.heap.size, Obj.cells #[.int .i64 0, .int .i64 0, .slice none 0 0] 44)]) ∧ Hid (wi.ownsRow G 5 1 (.slice (some ⟨G, 0, none⟩) N5 N5) N5 (bytesL (printK (digsOf s) W n i)))) (fun ii _ => 15 - (intOf ii).toNat)
      case atStart => exact ⟨0, Nat.zero_le _, rfl, hE4.out, hA4, hM4⟩
      case round =>
        clear hM4 hE4 hA4
        obtain ⟨i, hi15, rfl, hE, hA, hM⟩ := hrel
        by_cases hil : i < 15
        · have hag := fun W9 => run_index_arr W9 g i HGL.out hil
          have hps := HPS.out i hil
          have hat := HAT.out i hil
          rw [HN5.out] at hat
          have m0 : ∃ y, wr.cell? ⟨G, atP W n i, none⟩ = some (.int .u8 y) := ⟨_, by rw [hM.out.cellAt (atP W n i) (by omega), bytesL_get (by rw [printK_len, HN5.out]; exact hat)]⟩
          obtain ⟨y0, m0⟩ := m0
          have m1 := hM.out.frozenAt (atP W n i)
          have t2 : (i : Int).tdiv 3 = ((i / 3 : Nat) : Int) := by rw [Int.tdiv_eq_ediv_of_nonneg (by omega)]; rfl
          have t3 : (i : Int).tmod 3 = ((i % 3 : Nat) : Int) := by rw [Int.tmod_eq_emod_of_nonneg (by omega)]; rfl
          have hr := Nat.mod_lt i (show 0 < 3 by omega)
          have ha5 : i / 3 < 5 := by omega
          have hpd : atP W n i = i / 3 * W + 4 * n + i % 3 := rfl
          obtain ⟨y, hy⟩ : ∃ y, g.getD i 0 = y := ⟨_, rfl⟩
          rw [hy] at hps
          simp only [hy] at hag
          obtain ⟨t, htt⟩ : ∃ t, atP W n i = t := ⟨_, rfl⟩
          rw [htt] at hat m0 m1 hps hpd
          obtain ⟨a, haa⟩ : ∃ a, i / 3 = a := ⟨_, rfl⟩
          obtain ⟨r, hrr⟩ : ∃ r, i % 3 = r := ⟨_, rfl⟩
          rw [haa] at t2 ha5 hpd
          rw [hrr] at t3 hr hpd
          obtain ⟨p, hp⟩ : ∃ p, a * W = p := ⟨_, rfl⟩
          rw [hp] at hpd
          have t5 : (a : Int) * (W : Int) = (p : Int) := by rw [← hp]; exact (Int.natCast_mul a W).symm
          have hpb : p ≤ 75 := by rw [← hp]; exact Nat.mul_le_mul (show a ≤ 5 by omega) hw15.1
          have t6 : (p : Int) + 4 * (n : Int) + (r : Int) = (t : Int) := by omega
          have HPS2 := Lib.hid hps
          have HXX := Lib.hid (And.intro hy (And.intro htt (And.intro haa (And.intro hrr (And.intro hp hpd)))))
          clear hy htt haa hrr hp hps hpd
          go_wp2
          refine ⟨⟨i + 1, by omega, by go_num, hE.setCell (p := ⟨G, t, none⟩) (by show w.heap.size ≤ G; omega) _, Lib.hid ⟨(set_at _ _ _ _ _ (by omega)).trans (At.at hA.out 0 rfl), trivial⟩, Lib.hid ?_⟩, by simp [intOf]; omega⟩
          have h := (hM.out.stored t (.int .u8 (y : Int))).1
          rw [bytesL_set, HPS2.out] at h
          exact h
        · obtain rfl : i = 15 := by omega
          have hM2 := hM.out
          rw [HPN.out] at hM2
          have HM2 := Lib.hid hM2
          clear hM hM2 hil
          go_wp2
          exact ⟨⟨n + 1, by omega, by go_num, hE, hA, HM2⟩, by simp [intOf]; omega⟩
    · have hnn : n = s.size := by omega
      have hMM := hM.out
      rw [hnn, ← digsOf_len] at hMM
      have HBM := Lib.hid (show BytesAt wr (.slice (some ⟨G, 0, none⟩) N5 N5) (printR (digsOf s) W) by
        unfold BytesAt
        have hl : (printR (digsOf s) W).length = N5 := by unfold printR; rw [printK_len]; exact HN5.out
        rw [hl]
        exact SlAt.of_owns hMM)
      have KP := Lib.hid (c_paint W 5 S ww (5 * S) (ww * (5 * S)) ink paper (printR (digsOf s) W) _ wr HBM.out (by unfold printR; rw [printK_len, Nat.mul_comm]) hS ⟨by omega, by omega⟩ ⟨by omega, by omega⟩ HWW.out rfl rfl)
      obtain ⟨h5, hh5⟩ : ∃ n, 5 * S = n := ⟨_, rfl⟩
      rw [hh5] at KP HI
      obtain ⟨np, hnp⟩ : ∃ n, ww * h5 = n := ⟨_, rfl⟩
      rw [hnp] at KP HI
      have HPL := Lib.hid (paintedR_length (printR (digsOf s) W) ww S ink paper np)
      obtain ⟨px, hpx⟩ : ∃ p, paintedR (printR (digsOf s) W) ww S ink paper np = p := ⟨_, rfl⟩
      rw [hpx] at KP HI HPL
      unfold imgVal at KP
      dsimp only at KP
      have hnl2 : ¬ (n : Int) < (s.size : Int) := by omega
      have HNN := Lib.hid hnn
      clear hM hMM hpx hh5 hnp hnn hn hnl
      go_wp2_with (go_at_call 77; (with_reducible refine KP.out.mono ?_); rintro E w8 ⟨v8, rfl, h8, h9⟩; obtain ⟨-, po, pc, rfl, -⟩ := SlAt.of_owns h8; have hb := At.at (At.ext h9 hA.out) 0 rfl; obtain ⟨⟨c0, c1, c2⟩, f0, f1, f2⟩ := run_3 hb; have zb := World.block_lt_of_cell? _ _ c0; simp only at zb)
      have st := store_3 (v0 := .int .i64 (ww : Int)) (v1 := .int .i64 (h5 : Int)) (v2 := .slice po np pc) hb
      refine bodyPost_ret (results_row2 rfl _ _ _ _ _ (0, 0) _ rfl st.1 Tryd.underlying44 rfl (by kernel_rfl)) rfl ?_
      refine ⟨.slice po np pc, by rw [HI.out]; rfl, ?_, st.2.2 w (Nat.le_refl _) (hE.trans h9)⟩
      rw [HI.out]
      have hwz : w.heap.size < wr.heap.size := At.lt hA.out 0 rfl
      have h := own_set (own_set (own_set h8 hwz (o := 0) (u := .int .i64 (ww : Int))) hwz (o := 1) (u := .int .i64 (h5 : Int))) hwz (o := 2) (u := .slice po np pc)
      show IntsAt _ _ px
      unfold IntsAt
      rw [HPL.out]
      exact SlAt.of_owns h
end Go.Proofs.YtlnofbdhamingaaDoor
