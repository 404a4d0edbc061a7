/- Numbers in ranges, valid images: the program's functions. -/
import Derived.Test.YtlnofbdhamingaaProg
import Derived.Test.YtlnofbdhamingaaArgs
import Derived.Test.YtlnofbdhamingaaBlocks
import Derived.Test.YtlnofbdhamingaaCells
import Derived.Test.YtlnofbdhamingaaImgSpec
set_option linter.unusedVariables false
set_option linter.unusedSimpArgs false
namespace Go.Proofs.Ytlnofbdhamingaa
open Go.RowKit Go.Sort

def imgVal (m : Img) (v : Value) : Value := .agg #[.int .i64 m.w, .int .i64 m.h, v]
theorem IntsAt.form {w : World} {v : Value} {l : List Int} (h : IntsAt w v l) : ∃ ao cap, v = .slice ao l.length cap ∧ (l.length ≤ cap ∧ cap ≤ maxLen) ∧ ∀ j, j < l.length → ∃ b off, ao = some ⟨b, off, none⟩ ∧ w.cell? ⟨b, off + j, none⟩ = some (.int .i64 (l.getD j 0)) := by
  obtain ⟨-, ao, cap, e, h1, h2, -, hc⟩ := h
  exact ⟨ao, cap, e, ⟨h1, h2⟩, fun j hj => hc j _ (ints_get hj)⟩
theorem allIn_snoc {lo hi : Int} {l : List Int} {k : Nat} (hk : k < l.length) : allIn lo hi (l.take (k + 1)) ↔ allIn lo hi (l.take k) ∧ lo ≤ l.getD k 0 ∧ l.getD k 0 ≤ hi := by
  rw [List.take_succ_eq_append_getElem hk, List.getD_eq_getElem?_getD, List.getElem?_eq_getElem hk]
  unfold allIn
  constructor
  · intro h
    exact ⟨fun n hn => h n (List.mem_append_left _ hn), h _ (List.mem_append_right _ (List.mem_singleton.2 rfl))⟩
  · rintro ⟨h1, h2⟩ n hn
    rcases List.mem_append.1 hn with h9 | h9
    · exact h1 n h9
    · simp at h9; subst h9; exact h2
theorem allIn_not {lo hi : Int} {l : List Int} {k : Nat} (hk : k < l.length) (h : ¬ (lo ≤ l.getD k 0 ∧ l.getD k 0 ≤ hi)) : ¬ allIn lo hi l := fun h9 => h (h9 _ (by
  rw [List.getD_eq_getElem?_getD, List.getElem?_eq_getElem hk]; exact List.getElem_mem hk))
set_option maxHeartbeats 1000000 in
theorem within_same (lo hi : Int) (v : Value) (l : List Int) (w : World) (hv : IntsAt w v l) (hl : l.length ≤ maxLen) :
    Calls Try.prog 38 #[.int .i64 lo, .int .i64 hi, v] w fun e w' => e = .returned (.bool (decide (allIn lo hi l))) ∧ w = w' := by
  unfold maxLen at hl
  obtain ⟨ao, cap, rfl, -, hc⟩ := hv.form
  have HC := Lib.hid hc
  clear hc hv
  go_enter Try.func38, Try.ntmps38
  go_wp2
  go_loop [11] (fun i => ∃ k : Nat, k ≤ l.length ∧ i = .int .i64 (k : Int) ∧ Hid (allIn lo hi (l.take k))) (fun i => l.length - (intOf i).toNat)
  case atStart => exact ⟨0, Nat.zero_le _, rfl, Lib.hid (fun n hn => by simp at hn)⟩
  case round =>
    obtain ⟨k, hk, rfl, hI⟩ := hrel
    by_cases hkl : k < l.length
    · obtain ⟨b, off, rfl, c0⟩ := HC.out k hkl
      obtain ⟨x, hx⟩ : ∃ x, l.getD k 0 = x := ⟨_, rfl⟩
      rw [hx] at c0
      have HX := Lib.hid hx
      clear hx
      by_cases h1 : x < lo
      · go_wp2
        go_ret
        exact ⟨ret_bool (decide_eq_false (allIn_not hkl (by rw [HX.out]; omega))).symm, rfl⟩
      · by_cases h2 : hi < x
        · go_wp2
          go_ret
          exact ⟨ret_bool (decide_eq_false (allIn_not hkl (by rw [HX.out]; omega))).symm, rfl⟩
        · go_wp2
          go_round
          case rel => exact ⟨k + 1, by omega, by go_num, Lib.hid ((allIn_snoc hkl).2 ⟨hI.out, by rw [HX.out]; omega⟩)⟩
          case measure => simp [intOf]; omega
    · go_wp2
      go_ret
      have := hI.out
      rw [List.take_of_length_le (by omega)] at this
      exact ⟨ret_bool (decide_eq_true this).symm, rfl⟩
theorem within_walk (lo hi : Int) (v : Value) (l : List Int) (w : World) (hv : IntsAt w v l) (hl : l.length ≤ maxLen) :
    Calls Try.prog 38 #[.int .i64 lo, .int .i64 hi, v] w fun e w' => e = .returned (.bool (decide (allIn lo hi l))) ∧ Ext w w' :=
  (within_same lo hi v l w hv hl).mono fun _ _ ⟨h1, h2⟩ => ⟨h1, h2 ▸ Ext.refl _⟩
/-- of one number, of two: a slice that the call itself has just laid -/
theorem one_at (w : World) (k : Nat) (hk : k = w.heap.size) (x : Int) : IntsAt (w.alloc (.cells #[.int .i64 x] 3)) (.slice (some ⟨k, 0, none⟩) 1 1) [x] := by
  subst hk
  exact SlAt.of_owns (owns_lit w (ints [x]) 3 1 1 0 (Nat.zero_le _) (by unfold maxLen; omega) rfl)
theorem two_at (w : World) (k : Nat) (hk : k = w.heap.size) (x y : Int) : IntsAt (w.alloc (.cells #[.int .i64 x, .int .i64 y] 3)) (.slice (some ⟨k, 0, none⟩) 2 2) [x, y] := by
  subst hk
  exact SlAt.of_owns (owns_lit w (ints [x, y]) 3 2 1 0 (Nat.zero_le _) (by unfold maxLen; omega) rfl)
theorem within_one (lo hi x : Int) (k : Nat) (w : World) (hk : k = w.heap.size) :
    Calls Try.prog 38 #[.int .i64 lo, .int .i64 hi, .slice (some ⟨k, 0, none⟩) 1 1] (w.alloc (.cells #[.int .i64 x] 3)) fun e w' => e = .returned (.bool (decide (lo ≤ x ∧ x ≤ hi))) ∧ Ext (w.alloc (.cells #[.int .i64 x] 3)) w' := by
  refine (within_walk lo hi _ [x] _ (one_at w k hk x) (by simp [maxLen])).mono ?_
  rintro e w' ⟨rfl, h⟩
  exact ⟨ret_bool (by simp [allIn]), h⟩
theorem within_two (lo hi x y : Int) (k : Nat) (w : World) (hk : k = w.heap.size) :
    Calls Try.prog 38 #[.int .i64 lo, .int .i64 hi, .slice (some ⟨k, 0, none⟩) 2 2] (w.alloc (.cells #[.int .i64 x, .int .i64 y] 3)) fun e w' => e = .returned (.bool (decide ((lo ≤ x ∧ x ≤ hi) ∧ lo ≤ y ∧ y ≤ hi))) ∧ Ext (w.alloc (.cells #[.int .i64 x, .int .i64 y] 3)) w' := by
  refine (within_walk lo hi _ [x, y] _ (two_at w k hk x y) (by simp [maxLen])).mono ?_
  rintro e w' ⟨rfl, h⟩
  exact ⟨ret_bool (by simp [allIn]), h⟩
set_option maxHeartbeats 1000000 in
theorem mul_side {a b : Int} (h : (1 ≤ a ∧ a ≤ 16) ∧ 1 ≤ b ∧ b ≤ 16) : 1 ≤ a * b ∧ a * b ≤ 256 := by
  have h1 : 1 * 1 ≤ a * b := Int.mul_le_mul h.1.1 h.2.1 (by omega) (by omega)
  have h2 : a * b ≤ 16 * 16 := Int.mul_le_mul h.1.2 h.2.2 (by omega) (by omega)
  omega
set_option maxHeartbeats 2000000 in
theorem c_imgvalid (m : Img) (v : Value) (w : World) (hv : IntsAt w v m.pix) (hl : m.pix.length ≤ maxLen) :
    Calls Try.prog 35 #[imgVal m v] w fun e w' => e = .returned (.bool (decide m.Valid)) ∧ Ext w w' := by
  have HV := Lib.hid hv
  obtain ⟨ao, cap, rfl, -, -⟩ := hv.form
  have hlm : m.pix.length ≤ 9223372036854775807 := hl
  unfold imgVal
  clear hv
  by_cases hs : (1 ≤ m.w ∧ m.w ≤ 16) ∧ 1 ≤ m.h ∧ m.h ≤ 16
  · obtain ⟨p1, p2⟩ := mul_side hs
    have q1 : decide ((1 ≤ m.w ∧ m.w ≤ 16) ∧ 1 ≤ m.h ∧ m.h ≤ 16) = true := decide_eq_true hs
    have HS := Lib.hid hs
    clear hs
    by_cases hn : (m.pix.length : Int) = m.w * m.h
    · have q2 : ((m.pix.length : Int) == m.w * m.h) = true := by simpa using hn
      have HN := Lib.hid hn
      clear hn
      go_enter Try.func35, Try.ntmps35
      go_wp2_with (first | (have _q := hb; go_at_call 38; (with_reducible refine (within_walk _ _ _ m.pix _ (HV.out.ext (by repeat (first | exact Ext.refl _ | assumption | refine Ext.alloc ?_ _ | refine Ext.drewN ?_ _ | refine ext_grow ?_ _ _ | refine Ext.trans ?_ (by assumption)))) hl).mono ?_); rintro e w2 ⟨rfl, hb2⟩) | (go_at_call 38; (with_reducible refine (within_two _ _ _ _ _ _ (by simp)).mono ?_); rintro e w1 ⟨rfl, hb⟩; have hc := hb.cell; have hf := hb.frozen; have hz := hb.size))
      go_ret
      exact ⟨ret_bool (decide_eq_decide.2 ⟨fun h => ⟨⟨HS.out.1, HS.out.2, HN.out⟩, h⟩, fun h => h.2⟩), (by repeat (first | exact Ext.refl _ | assumption | refine Ext.alloc ?_ _ | refine Ext.drewN ?_ _ | refine ext_grow ?_ _ _ | refine Ext.trans ?_ (by assumption)))⟩
    · have q2 : ((m.pix.length : Int) == m.w * m.h) = false := by simpa using hn
      have HN := Lib.hid hn
      clear hn
      go_enter Try.func35, Try.ntmps35
      go_wp2_with (go_at_call 38; (with_reducible refine (within_two _ _ _ _ _ _ (by simp)).mono ?_); rintro e w1 ⟨rfl, hb⟩; have hc := hb.cell; have hf := hb.frozen; have hz := hb.size)
      go_ret
      exact ⟨ret_bool (decide_eq_false (fun h => HN.out h.1.2.2)).symm, (by repeat (first | exact Ext.refl _ | assumption | refine Ext.alloc ?_ _ | refine Ext.drewN ?_ _ | refine ext_grow ?_ _ _ | refine Ext.trans ?_ (by assumption)))⟩
  · have q1 : decide ((1 ≤ m.w ∧ m.w ≤ 16) ∧ 1 ≤ m.h ∧ m.h ≤ 16) = false := decide_eq_false hs
    have HS := Lib.hid hs
    clear hs
    go_enter Try.func35, Try.ntmps35
    go_wp2_with (go_at_call 38; (with_reducible refine (within_two _ _ _ _ _ _ (by simp)).mono ?_); rintro e w1 ⟨rfl, hb⟩; have hc := hb.cell; have hf := hb.frozen; have hz := hb.size)
    go_ret
    exact ⟨ret_bool (decide_eq_false (fun h => HS.out ⟨h.1.1, h.1.2.1⟩)).symm, (by repeat (first | exact Ext.refl _ | assumption | refine Ext.alloc ?_ _ | refine Ext.drewN ?_ _ | refine ext_grow ?_ _ _ | refine Ext.trans ?_ (by assumption)))⟩
def checkImg (m : Img) : Int := if m.Valid then 0 else 20
set_option maxHeartbeats 2000000 in
theorem c_imgCheck (m : Img) (v : Value) (w : World) (hv : IntsAt w v m.pix) (hl : m.pix.length ≤ maxLen) :
    Calls Try.prog 29 #[imgVal m v] w fun e w' => e = .returned (.int .i64 (checkImg m)) ∧ Ext w w' := by
  have K := Lib.hid (fun w' (h : Ext w w') => c_imgvalid m v w' (hv.ext h) hl)
  obtain ⟨t, ht⟩ : ∃ t, decide m.Valid = t := ⟨_, rfl⟩
  rw [ht] at K
  have HT := Lib.hid ht
  unfold imgVal at K ⊢
  clear hv ht
  cases t
  · go_enter Try.func29, Try.ntmps29
    go_wp2_with (go_at_call 35; (with_reducible refine (K.out _ (by repeat (first | exact Ext.refl _ | assumption | refine Ext.alloc ?_ _ | refine Ext.drewN ?_ _ | refine ext_grow ?_ _ _ | refine Ext.trans ?_ (by assumption)))).mono ?_); rintro e w1 ⟨rfl, hb⟩)
    go_ret
    exact ⟨ret_int (by unfold checkImg; rw [if_neg (of_decide_eq_false HT.out)]), (by repeat (first | exact Ext.refl _ | assumption | refine Ext.alloc ?_ _ | refine Ext.drewN ?_ _ | refine ext_grow ?_ _ _ | refine Ext.trans ?_ (by assumption)))⟩
  · go_enter Try.func29, Try.ntmps29
    go_wp2_with (go_at_call 35; (with_reducible refine (K.out _ (by repeat (first | exact Ext.refl _ | assumption | refine Ext.alloc ?_ _ | refine Ext.drewN ?_ _ | refine ext_grow ?_ _ _ | refine Ext.trans ?_ (by assumption)))).mono ?_); rintro e w1 ⟨rfl, hb⟩)
    go_ret
    exact ⟨ret_int (by unfold checkImg; rw [if_pos (of_decide_eq_true HT.out)]), (by repeat (first | exact Ext.refl _ | assumption | refine Ext.alloc ?_ _ | refine Ext.drewN ?_ _ | refine ext_grow ?_ _ _ | refine Ext.trans ?_ (by assumption)))⟩
end Go.Proofs.Ytlnofbdhamingaa
