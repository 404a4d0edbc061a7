/- Layer 7's numbers in ranges, images and their pixels: the program's functions and the reference's. -/
import Derived.Test.YtipkjdfnoonpcaaProg
import Derived.Test.YtipkjdfnoonpcaaArgs
import Derived.Test.YtipkjdfnoonpcaaBlocks
import Derived.Test.YtipkjdfnoonpcaaCells
import Derived.Test.YtipkjdfnoonpcaaGraspPlan
set_option linter.unusedVariables false
set_option linter.unusedSimpArgs false
namespace Go.Proofs.Ytipkjdfnoonpcaa
open Go.RowKit Go.Sort

def imgCells (m : Img) (v : Value) : Array Value := #[.int .i64 m.w, .int .i64 m.h, v]
def imgVal (m : Img) (v : Value) : Value := .agg #[.int .i64 m.w, .int .i64 m.h, v]
theorem IntsAt.form {w : World} {v : Value} {l : List Int} (h : IntsAt w v l) : ∃ ao cap, v = .slice ao l.length cap ∧ (l.length ≤ cap ∧ cap ≤ maxLen) ∧ ∀ j, j < l.length → ∃ b off, ao = some ⟨b, off, none⟩ ∧ w.cell? ⟨b, off + j, none⟩ = some (.int .i64 (l.getD j 0)) := by
  obtain ⟨-, ao, cap, e, h1, h2, -, hc⟩ := h
  exact ⟨ao, cap, e, ⟨h1, h2⟩, fun j hj => hc j _ (ints_get hj)⟩
theorem allIn_snoc {lo hi : Int} {l : List Int} {k : Nat} (hk : k < l.length) : allIn lo hi (l.take (k + 1)) ↔ allIn lo hi (l.take k) ∧ lo ≤ l.getD k 0 ∧ l.getD k 0 ≤ hi := by
  rw [List.take_succ_eq_append_getElem hk, List.getD_eq_getElem?_getD, List.getElem?_eq_getElem hk]
  unfold allIn
  constructor
  · intro h
    exact ⟨fun n hn => h n (List.mem_append_left _ hn), h _ (List.mem_append_right _ (List.mem_singleton.2 rfl))⟩
  · rintro ⟨h1, h2⟩ n hn
    rcases List.mem_append.1 hn with h9 | h9
    · exact h1 n h9
    · simp at h9; subst h9; exact h2
theorem allIn_not {lo hi : Int} {l : List Int} {k : Nat} (hk : k < l.length) (h : ¬ (lo ≤ l.getD k 0 ∧ l.getD k 0 ≤ hi)) : ¬ allIn lo hi l := fun h9 => h (h9 _ (by
  rw [List.getD_eq_getElem?_getD, List.getElem?_eq_getElem hk]; exact List.getElem_mem hk))
set_option maxHeartbeats 1000000 in
theorem within_same (f : FuncId) (hf : f = 50 ∨ f = 107) (lo hi : Int) (v : Value) (l : List Int) (w : World) (hv : IntsAt w v l) (hl : l.length ≤ maxLen) :
    Calls Try.prog f #[.int .i64 lo, .int .i64 hi, v] w fun e w' => e = .returned (.bool (decide (allIn lo hi l))) ∧ w = w' := by
  unfold maxLen at hl
  obtain ⟨ao, cap, rfl, -, hc⟩ := hv.form
  have HC := Lib.hid hc
  clear hc hv
  rcases hf with rfl | rfl
  case inl =>
    go_enter Try.func50, Try.ntmps50
    go_wp2
    go_loop [11] (fun i => ∃ k : Nat, k ≤ l.length ∧ i = .int .i64 (k : Int) ∧ Hid (allIn lo hi (l.take k))) (fun i => l.length - (intOf i).toNat)
    case atStart => exact ⟨0, Nat.zero_le _, rfl, Lib.hid (fun n hn => by simp at hn)⟩
    case round =>
      obtain ⟨k, hk, rfl, hI⟩ := hrel
      by_cases hkl : k < l.length
      · obtain ⟨b, off, rfl, c0⟩ := HC.out k hkl
        obtain ⟨x, hx⟩ : ∃ x, l.getD k 0 = x := ⟨_, rfl⟩
        rw [hx] at c0
        have HX := Lib.hid hx
        clear hx
        by_cases h1 : x < lo
        · go_wp2
          go_ret
          exact ⟨ret_bool (decide_eq_false (allIn_not hkl (by rw [HX.out]; omega))).symm, rfl⟩
        · by_cases h2 : hi < x
          · go_wp2
            go_ret
            exact ⟨ret_bool (decide_eq_false (allIn_not hkl (by rw [HX.out]; omega))).symm, rfl⟩
          · go_wp2
            go_round
            case rel => exact ⟨k + 1, by omega, by go_num, Lib.hid ((allIn_snoc hkl).2 ⟨hI.out, by rw [HX.out]; omega⟩)⟩
            case measure => simp [intOf]; omega
      · go_wp2
        go_ret
        have := hI.out
        rw [List.take_of_length_le (by omega)] at this
        exact ⟨ret_bool (decide_eq_true this).symm, rfl⟩
  case inr =>
    go_enter Try.func107, Try.ntmps107
    go_wp2
    go_loop [11] (fun i => ∃ k : Nat, k ≤ l.length ∧ i = .int .i64 (k : Int) ∧ Hid (allIn lo hi (l.take k))) (fun i => l.length - (intOf i).toNat)
    case atStart => exact ⟨0, Nat.zero_le _, rfl, Lib.hid (fun n hn => by simp at hn)⟩
    case round =>
      obtain ⟨k, hk, rfl, hI⟩ := hrel
      by_cases hkl : k < l.length
      · obtain ⟨b, off, rfl, c0⟩ := HC.out k hkl
        obtain ⟨x, hx⟩ : ∃ x, l.getD k 0 = x := ⟨_, rfl⟩
        rw [hx] at c0
        have HX := Lib.hid hx
        clear hx
        by_cases h1 : x < lo
        · go_wp2
          go_ret
          exact ⟨ret_bool (decide_eq_false (allIn_not hkl (by rw [HX.out]; omega))).symm, rfl⟩
        · by_cases h2 : hi < x
          · go_wp2
            go_ret
            exact ⟨ret_bool (decide_eq_false (allIn_not hkl (by rw [HX.out]; omega))).symm, rfl⟩
          · go_wp2
            go_round
            case rel => exact ⟨k + 1, by omega, by go_num, Lib.hid ((allIn_snoc hkl).2 ⟨hI.out, by rw [HX.out]; omega⟩)⟩
            case measure => simp [intOf]; omega
      · go_wp2
        go_ret
        have := hI.out
        rw [List.take_of_length_le (by omega)] at this
        exact ⟨ret_bool (decide_eq_true this).symm, rfl⟩
theorem within_walk (f : FuncId) (hf : f = 50 ∨ f = 107) (lo hi : Int) (v : Value) (l : List Int) (w : World) (hv : IntsAt w v l) (hl : l.length ≤ maxLen) :
    Calls Try.prog f #[.int .i64 lo, .int .i64 hi, v] w fun e w' => e = .returned (.bool (decide (allIn lo hi l))) ∧ Ext w w' :=
  (within_same f hf lo hi v l w hv hl).mono fun _ _ ⟨h1, h2⟩ => ⟨h1, h2 ▸ Ext.refl _⟩
theorem within_one_same (f : FuncId) (hf : f = 50 ∨ f = 107) (lo hi x : Int) (k : Nat) (w : World) (hk : k = w.heap.size) :
    Calls Try.prog f #[.int .i64 lo, .int .i64 hi, .slice (some ⟨k, 0, none⟩) 1 1] (w.alloc (.cells #[.int .i64 x] 3)) fun e w' => e = .returned (.bool (decide (lo ≤ x ∧ x ≤ hi))) ∧ w.alloc (.cells #[.int .i64 x] 3) = w' := by
  refine (within_same f hf lo hi _ [x] _ (SlAt.of_owns (by subst hk; exact owns_lit w (ints [x]) 3 1 1 0 (Nat.zero_le _) (by unfold maxLen; omega) rfl)) (by simp [maxLen])).mono ?_
  rintro e w' ⟨rfl, h⟩
  exact ⟨ret_bool (by simp [allIn]), h⟩
/-- of one number, of two: a slice that the call itself has just laid -/
theorem one_at (w : World) (k : Nat) (hk : k = w.heap.size) (x : Int) : IntsAt (w.alloc (.cells #[.int .i64 x] 3)) (.slice (some ⟨k, 0, none⟩) 1 1) [x] := by
  subst hk
  exact SlAt.of_owns (owns_lit w (ints [x]) 3 1 1 0 (Nat.zero_le _) (by unfold maxLen; omega) rfl)
theorem two_at (w : World) (k : Nat) (hk : k = w.heap.size) (x y : Int) : IntsAt (w.alloc (.cells #[.int .i64 x, .int .i64 y] 3)) (.slice (some ⟨k, 0, none⟩) 2 2) [x, y] := by
  subst hk
  exact SlAt.of_owns (owns_lit w (ints [x, y]) 3 2 1 0 (Nat.zero_le _) (by unfold maxLen; omega) rfl)
theorem within_one (f : FuncId) (hf : f = 50 ∨ f = 107) (lo hi x : Int) (k : Nat) (w : World) (hk : k = w.heap.size) :
    Calls Try.prog f #[.int .i64 lo, .int .i64 hi, .slice (some ⟨k, 0, none⟩) 1 1] (w.alloc (.cells #[.int .i64 x] 3)) fun e w' => e = .returned (.bool (decide (lo ≤ x ∧ x ≤ hi))) ∧ Ext (w.alloc (.cells #[.int .i64 x] 3)) w' := by
  refine (within_walk f hf lo hi _ [x] _ (one_at w k hk x) (by simp [maxLen])).mono ?_
  rintro e w' ⟨rfl, h⟩
  exact ⟨ret_bool (by simp [allIn]), h⟩
theorem within_two (f : FuncId) (hf : f = 50 ∨ f = 107) (lo hi x y : Int) (k : Nat) (w : World) (hk : k = w.heap.size) :
    Calls Try.prog f #[.int .i64 lo, .int .i64 hi, .slice (some ⟨k, 0, none⟩) 2 2] (w.alloc (.cells #[.int .i64 x, .int .i64 y] 3)) fun e w' => e = .returned (.bool (decide ((lo ≤ x ∧ x ≤ hi) ∧ lo ≤ y ∧ y ≤ hi))) ∧ Ext (w.alloc (.cells #[.int .i64 x, .int .i64 y] 3)) w' := by
  refine (within_walk f hf lo hi _ [x, y] _ (two_at w k hk x y) (by simp [maxLen])).mono ?_
  rintro e w' ⟨rfl, h⟩
  exact ⟨ret_bool (by simp [allIn]), h⟩
set_option maxHeartbeats 1000000 in
theorem rwithin_same (f : FuncId) (hf : f = 61 ∨ f = 83) (n lo hi : Int) (w : World) :
    Calls Try.prog f #[.int .i64 n, .int .i64 lo, .int .i64 hi] w fun e w' => e = .returned (.bool (decide (lo ≤ n ∧ n ≤ hi))) ∧ w = w' := by
  rcases hf with rfl | rfl
  · go_enter Try.func61, Try.ntmps61
    go_wp2
    all_goals (go_ret; refine ⟨ret_bool ?_, rfl⟩; simp; omega)
  · go_enter Try.func83, Try.ntmps83
    go_wp2
    all_goals (go_ret; refine ⟨ret_bool ?_, rfl⟩; simp; omega)
theorem rwithin_walk (f : FuncId) (hf : f = 61 ∨ f = 83) (n lo hi : Int) (w : World) :
    Calls Try.prog f #[.int .i64 n, .int .i64 lo, .int .i64 hi] w fun e w' => e = .returned (.bool (decide (lo ≤ n ∧ n ≤ hi))) ∧ Ext w w' :=
  (rwithin_same f hf n lo hi w).mono fun _ _ ⟨h1, h2⟩ => ⟨h1, h2 ▸ Ext.refl _⟩
end Go.Proofs.Ytipkjdfnoonpcaa
