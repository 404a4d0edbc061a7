/- The walk of the law's 'valid'. -/
import Derived.Test.YtodoimeiklilhaaDoorGRef
import Derived.Test.YtodoimeiklilhaaDoorGOps
set_option linter.unusedVariables false
set_option linter.unusedSimpArgs false
namespace Go.Proofs.YtodoimeiklilhaaDoor
open Go.RowKit Go.Sort

set_option maxRecDepth 100000 in
set_option maxHeartbeats 4000000 in
theorem l_valid (l : List Frac) (b off : Nat) (hl : l.length ≤ 100) (hw : ∀ a ∈ l, a.wide) (w : World) (hc : FracCells w b off l) :
    Calls Tryd.prog 18 #[.slice (some ⟨b, off, none⟩) l.length l.length] w fun e w' => e = .returned (.bool (l.all fun a => decide a.ok)) ∧ Ext w w' := by
  have HC := Lib.hid hc
  have HW := Lib.hid hw
  have HL := Lib.hid hl
  clear hc hw
  go_enter Tryd.func18, Tryd.ntmps18
  go_wp2
  go_loopw [3] (fun i wr => Ext w wr ∧ ∃ k : Nat, k ≤ l.length ∧ i = .int .i64 k ∧ Hid (∀ j, j < k → (l.getD j frac0).ok)) (fun i _ => l.length - (intOf i).toNat)
  case atStart => exact ⟨Ext.refl _, 0, Nat.zero_le _, rfl, fun j hj => by omega⟩
  case round =>
    obtain ⟨hE, k, hk, rfl, hd⟩ := hrel
    by_cases hkl : k < l.length
    · obtain ⟨g0, g1⟩ := HC.out k hkl
      obtain ⟨a, ha⟩ : ∃ a, l.getD k frac0 = a := ⟨_, rfl⟩
      have hwa : a.wide := HW.out a (by rw [← ha, List.getD_eq_getElem?_getD, List.getElem?_eq_getElem hkl]; exact List.getElem_mem hkl)
      rw [ha] at g0 g1
      replace g0 := hE.get g0
      replace g1 := hE.get g1
      have cv := fun w => r_Valid a hwa w
      have HA := Lib.hid ha
      clear ha hwa
      by_cases ho : a.ok
      · rw [decide_eq_true ho] at cv
        have CV := Lib.hid cv
        have HO := Lib.hid ho
        clear cv ho
        obtain ⟨n, d⟩ := a
        simp only at g0 g1
        go_wp2_with (go_at_call 50; refine (CV.out _).mono ?_; rintro e w' ⟨rfl, hb⟩)
        go_roundw
        case rel => exact ⟨hE.trans hb, k + 1, by omega, by go_num, fun j hj => by
          rcases Nat.lt_or_ge j k with h | h
          · exact hd.out j h
          · obtain rfl : j = k := by omega
            rw [HA.out]; exact HO.out⟩
        case measure => simp [intOf]; omega
      · rw [decide_eq_false ho] at cv
        have CV := Lib.hid cv
        have HO := Lib.hid ho
        clear cv ho
        obtain ⟨n, d⟩ := a
        simp only at g0 g1
        go_wp2_with (go_at_call 50; refine (CV.out _).mono ?_; rintro e w' ⟨rfl, hb⟩)
        go_ret
        exact ⟨ret_bool (all_no hkl (by rw [HA.out]; exact HO.out)).symm, hE.trans hb⟩
    · have HD := Lib.hid (all_yes (l := l) fun j hj => hd.out j (by omega))
      go_wp2
      go_ret
      exact ⟨ret_bool HD.out.symm, hE⟩
theorem l_valid1 (a : Frac) (ha : a.wide) (k : Nat) (w : World) (h : w.heap[k]? = some (.cells #[.int .i64 a.num, .int .i64 a.den] 23)) :
    Calls Tryd.prog 18 #[.slice (some ⟨k, 0, none⟩) 1 1] w fun e w' => e = .returned (.bool (decide a.ok)) ∧ Ext w w' := by
  have := l_valid [a] k 0 (by simp) (by simpa using ha) w (fun j hj => by
    simp at hj
    subst hj
    exact ⟨cell_of_at h 0 rfl, cell_of_at h 1 rfl⟩)
  simpa using this
theorem l_valid2 (a b : Frac) (ha : a.wide) (hb : b.wide) (k : Nat) (w : World) (h : w.heap[k]? = some (.cells #[.int .i64 a.num, .int .i64 a.den, .int .i64 b.num, .int .i64 b.den] 23)) :
    Calls Tryd.prog 18 #[.slice (some ⟨k, 0, none⟩) 2 2] w fun e w' => e = .returned (.bool (decide (a.ok ∧ b.ok))) ∧ Ext w w' := by
  have := l_valid [a, b] k 0 (by simp) (by simpa using ⟨ha, hb⟩) w (fun j hj => by
    match j, hj with
    | 0, _ => exact ⟨cell_of_at h 0 rfl, cell_of_at h 1 rfl⟩
    | 1, _ => exact ⟨cell_of_at h 2 rfl, cell_of_at h 3 rfl⟩)
  simpa [Bool.decide_and] using this
theorem l_valid3 (a b c : Frac) (ha : a.wide) (hb : b.wide) (hcw : c.wide) (k : Nat) (w : World) (h : w.heap[k]? = some (.cells #[.int .i64 a.num, .int .i64 a.den, .int .i64 b.num, .int .i64 b.den, .int .i64 c.num, .int .i64 c.den] 23)) :
    Calls Tryd.prog 18 #[.slice (some ⟨k, 0, none⟩) 3 3] w fun e w' => e = .returned (.bool (decide (a.ok ∧ b.ok ∧ c.ok))) ∧ Ext w w' := by
  have := l_valid [a, b, c] k 0 (by simp) (by simpa using ⟨ha, hb, hcw⟩) w (fun j hj => by
    match j, hj with
    | 0, _ => exact ⟨cell_of_at h 0 rfl, cell_of_at h 1 rfl⟩
    | 1, _ => exact ⟨cell_of_at h 2 rfl, cell_of_at h 3 rfl⟩
    | 2, _ => exact ⟨cell_of_at h 4 rfl, cell_of_at h 5 rfl⟩)
  simpa [Bool.decide_and] using this
end Go.Proofs.YtodoimeiklilhaaDoor
