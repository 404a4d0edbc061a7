/- Which lists are symbols, and which are messages. -/
import Derived.Test.YtlnofbdhamingaaDoorSymbols
import Derived.Test.YtlnofbdhamingaaDoorBytes
set_option linter.unusedVariables false
set_option linter.unusedSimpArgs false
namespace Go.Proofs.YtlnofbdhamingaaDoor
open Go.RowKit Go.Sort

def allSym (l : List Nat) : Bool := l.all fun n => decide (n ≤ 15)
def isMessage (l : List Nat) : Bool := decide (1 ≤ l.length) && decide (l.length ≤ 13) && allSym l
theorem all_yes {l : List Nat} (h : ∀ j, j < l.length → l.getD j 0 ≤ 15) : allSym l = true := by
  unfold allSym
  rw [List.all_eq_true]
  intro x hx
  obtain ⟨j, hj, e⟩ := List.getElem_of_mem hx
  have := h j hj
  rw [List.getD_eq_getElem?_getD, List.getElem?_eq_getElem hj, Option.getD_some, e] at this
  exact decide_eq_true this
theorem all_no {l : List Nat} {j : Nat} (hj : j < l.length) (h : ¬ l.getD j 0 ≤ 15) : allSym l = false := by
  unfold allSym
  rw [List.all_eq_false]
  refine ⟨l[j], List.getElem_mem hj, ?_⟩
  rw [List.getD_eq_getElem?_getD, List.getElem?_eq_getElem hj, Option.getD_some] at h
  simpa using h
set_option maxRecDepth 100000 in
set_option maxHeartbeats 4000000 in
theorem r_symbols (v : Value) (l : List Nat) (w : World) (hv : BytesAt w v l) (hl : l.length ≤ maxLen) :
    Calls Tryd.prog 84 #[v] w fun e w' => e = .returned (.bool (allSym l)) ∧ Ext w w' := by
  have hm : maxLen = 9223372036854775807 := rfl
  rw [hm] at hl
  rcases hv.cases with ⟨rfl, ao, cap, rfl, -, -⟩ | ⟨h0, b, off, cap, rfl, -, -, hc⟩
  · go_enter Tryd.func84, Tryd.ntmps84
    go_wp2
    go_loopw [3] (fun i wr => i = .int .i64 0 ∧ Ext w wr) (fun i _ => 0)
    case atStart => exact ⟨rfl, Ext.refl _⟩
    case round =>
      obtain ⟨rfl, hE⟩ := hrel
      go_wp2
      go_ret
      exact ⟨rfl, hE⟩
  · have HC := Lib.hid hc
    clear hc
    go_enter Tryd.func84, Tryd.ntmps84
    go_wp2
    go_loopw [3] (fun i wr => ∃ k : Nat, k ≤ l.length ∧ i = .int .i64 (k : Int) ∧ Ext w wr ∧ Hid (∀ j, j < k → l.getD j 0 ≤ 15)) (fun i _ => l.length - (intOf i).toNat)
    case atStart => exact ⟨0, by omega, rfl, Ext.refl _, Lib.hid (fun j hj => by omega)⟩
    case round =>
      obtain ⟨k, hk, rfl, hE, hs⟩ := hrel
      by_cases hkl : k < l.length
      · have c0 := hE.get (HC.out k hkl)
        obtain ⟨x, hx⟩ : ∃ x, l.getD k 0 = x := ⟨_, rfl⟩
        rw [hx] at c0
        have HX := Lib.hid hx
        clear hx
        by_cases hx15 : 15 < x
        · have t : decide (15 < (x : Int)) = true := decide_eq_true (by omega)
          go_wp2
          go_ret
          exact ⟨ret_bool (all_no hkl (by rw [HX.out]; omega)).symm, hE⟩
        · have t : decide (15 < (x : Int)) = false := decide_eq_false (by omega)
          go_wp2
          go_roundw
          case rel => exact ⟨k + 1, by omega, by go_num, hE, Lib.hid (fun j hj => by
            by_cases e : j = k
            · subst e; rw [HX.out]; omega
            · exact hs.out j (by omega))⟩
          case measure => simp [intOf]; omega
      · go_wp2
        go_ret
        exact ⟨ret_bool (all_yes (fun j hj => hs.out j (by omega))).symm, hE⟩
theorem c_above (x : Nat) (w : World) : Calls Tryd.prog 94 #[.int .u8 (x : Int)] w fun e w' => e = .returned (.bool (decide (15 < (x : Int)))) ∧ Ext w w' := by
  go_enter Tryd.func94, Tryd.ntmps94
  go_wp2
  go_ret
  exact ⟨rfl, Ext.refl _⟩
set_option maxRecDepth 100000 in
set_option maxHeartbeats 4000000 in
theorem c_indexFunc (v : Value) (l : List Nat) (w : World) (hv : BytesAt w v l) (hl : l.length ≤ maxLen) :
    Calls Tryd.prog 121 #[v, .func (.func 94) #[] #[]] w fun e w' => ∃ r : Int, e = .returned (.int .i64 r) ∧ decide (0 ≤ r) = !allSym l ∧ Ext w w' := by
  have hm : maxLen = 9223372036854775807 := rfl
  rw [hm] at hl
  rcases hv.cases with ⟨rfl, ao, cap, rfl, -, -⟩ | ⟨h0, b, off, cap, rfl, -, -, hc⟩
  · go_enter Tryd.func121, Tryd.ntmps121
    go_wp2
    go_loopw [8] (fun i wr => i = .int .i64 0 ∧ Ext w wr) (fun i _ => 0)
    case atStart => exact ⟨rfl, Ext.refl _⟩
    case round =>
      obtain ⟨rfl, hE⟩ := hrel
      go_wp2
      go_ret
      exact ⟨-1, rfl, rfl, hE⟩
  · have HC := Lib.hid hc
    clear hc
    go_enter Tryd.func121, Tryd.ntmps121
    go_wp2
    go_loopw [8] (fun i wr => ∃ k : Nat, k ≤ l.length ∧ i = .int .i64 (k : Int) ∧ Ext w wr ∧ Hid (∀ j, j < k → l.getD j 0 ≤ 15)) (fun i _ => l.length - (intOf i).toNat)
    case atStart => exact ⟨0, by omega, rfl, Ext.refl _, Lib.hid (fun j hj => by omega)⟩
    case round =>
      obtain ⟨k, hk, rfl, hE, hs⟩ := hrel
      by_cases hkl : k < l.length
      · have c0 := hE.get (HC.out k hkl)
        obtain ⟨x, hx⟩ : ∃ x, l.getD k 0 = x := ⟨_, rfl⟩
        rw [hx] at c0
        have HX := Lib.hid hx
        clear hx
        have ca := fun w => c_above x w
        by_cases hx15 : 15 < x
        · have t : decide (15 < (x : Int)) = true := decide_eq_true (by omega)
          rw [t] at ca
          have CA := Lib.hid ca
          clear ca
          go_wp2_with (go_at_call 94; (with_reducible refine (CA.out _).mono ?_); rintro E w1 ⟨rfl, h1⟩)
          go_ret
          exact ⟨k, rfl, by rw [all_no hkl (by rw [HX.out]; omega)]; exact decide_eq_true (by omega), (by repeat (first | exact Ext.refl _ | assumption | refine Ext.alloc ?_ _ | refine Ext.drewN ?_ _ | refine ext_grow ?_ _ _ | refine Ext.setCell ?_ (by first | exact Nat.le_refl _ | omega | (simp; done) | (simp; omega)) _ | refine Ext.trans ?_ (by assumption)))⟩
        · have t : decide (15 < (x : Int)) = false := decide_eq_false (by omega)
          rw [t] at ca
          have CA := Lib.hid ca
          clear ca
          go_wp2_with (go_at_call 94; (with_reducible refine (CA.out _).mono ?_); rintro E w1 ⟨rfl, h1⟩)
          go_roundw
          case rel => exact ⟨k + 1, by omega, by go_num, (by repeat (first | exact Ext.refl _ | assumption | refine Ext.alloc ?_ _ | refine Ext.drewN ?_ _ | refine ext_grow ?_ _ _ | refine Ext.setCell ?_ (by first | exact Nat.le_refl _ | omega | (simp; done) | (simp; omega)) _ | refine Ext.trans ?_ (by assumption))), Lib.hid (fun j hj => by
            by_cases e : j = k
            · subst e; rw [HX.out]; omega
            · exact hs.out j (by omega))⟩
          case measure => simp [intOf]; omega
      · go_wp2
        go_ret
        exact ⟨-1, rfl, by rw [all_yes (fun j hj => hs.out j (by omega))]; rfl, hE⟩
set_option maxHeartbeats 2000000 in
theorem c_containsFunc (v : Value) (l : List Nat) (w : World) (hv : BytesAt w v l) (hl : l.length ≤ maxLen) :
    Calls Tryd.prog 93 #[v, .func (.func 94) #[] #[]] w fun e w' => e = .returned (.bool (!allSym l)) ∧ Ext w w' := by
  have CI := Lib.hid (c_indexFunc v l w hv hl)
  clear hv
  go_enter Tryd.func93, Tryd.ntmps93
  go_wp2_with (go_at_call 121; (with_reducible refine CI.out.mono ?_); rintro E w1 ⟨r, rfl, hr, h1⟩)
  go_ret
  exact ⟨ret_bool (by first | rfl | exact hr), h1⟩
set_option maxHeartbeats 2000000 in
theorem c_symbols (v : Value) (l : List Nat) (w : World) (hv : BytesAt w v l) (hl : l.length ≤ maxLen) :
    Calls Tryd.prog 60 #[v] w fun e w' => e = .returned (.bool (allSym l)) ∧ Ext w w' := by
  have CI := Lib.hid (c_containsFunc v l w hv hl)
  clear hv
  go_enter Tryd.func60, Tryd.ntmps60
  go_wp2_with (go_at_call 93; (with_reducible refine CI.out.mono ?_); rintro E w1 ⟨rfl, h1⟩)
  go_ret
  exact ⟨ret_bool (by simp), h1⟩
set_option maxHeartbeats 4000000 in
theorem message_any (f g : FuncId) (hf : (f = 57 ∧ g = 60) ∨ (f = 39 ∧ g = 84)) (v : Value) (l : List Nat) (w : World) (hv : BytesAt w v l) (hl : l.length ≤ maxLen)
    (k : Calls Tryd.prog g #[v] w fun e w' => e = .returned (.bool (allSym l)) ∧ Ext w w') :
    Calls Tryd.prog f #[v] w fun e w' => e = .returned (.bool (isMessage l)) ∧ Ext w w' := by
  have hm : maxLen = 9223372036854775807 := rfl
  rw [hm] at hl
  obtain ⟨ao, cap, rfl, hcap, -⟩ := hv.form
  clear hv
  have K := Lib.hid k
  clear k
  obtain ⟨r, hr⟩ : ∃ r, isMessage l = r := ⟨_, rfl⟩
  rw [hr]
  unfold isMessage at hr
  by_cases h1 : 1 ≤ l.length
  · have t1 : decide (1 ≤ (l.length : Int)) = true := decide_eq_true (by omega)
    by_cases h2 : l.length ≤ 13
    · have t2 : decide ((l.length : Int) ≤ 13) = true := decide_eq_true (by omega)
      have HR := Lib.hid (show allSym l = r by rw [← hr, decide_eq_true h1, decide_eq_true h2]; rfl)
      clear hr
      rcases hf with ⟨rfl, rfl⟩ | ⟨rfl, rfl⟩
      · go_enter Tryd.func57, Tryd.ntmps57
        go_wp2_with (go_at_call 60; (with_reducible refine K.out.mono ?_); rintro E w1 ⟨rfl, hb1⟩)
        go_ret
        exact ⟨ret_bool HR.out, hb1⟩
      · go_enter Tryd.func39, Tryd.ntmps39
        go_wp2_with (go_at_call 84; (with_reducible refine K.out.mono ?_); rintro E w1 ⟨rfl, hb1⟩)
        go_ret
        exact ⟨ret_bool HR.out, hb1⟩
    · have t2 : decide ((l.length : Int) ≤ 13) = false := decide_eq_false (by omega)
      obtain rfl : r = false := by rw [← hr, decide_eq_false h2]; simp
      clear hr
      rcases hf with ⟨rfl, rfl⟩ | ⟨rfl, rfl⟩
      · go_enter Tryd.func57, Tryd.ntmps57
        go_wp2
        go_ret
        exact ⟨rfl, Ext.refl _⟩
      · go_enter Tryd.func39, Tryd.ntmps39
        go_wp2
        go_ret
        exact ⟨rfl, Ext.refl _⟩
  · have t1 : decide (1 ≤ (l.length : Int)) = false := decide_eq_false (by omega)
    obtain rfl : r = false := by rw [← hr, decide_eq_false h1]; simp
    clear hr
    rcases hf with ⟨rfl, rfl⟩ | ⟨rfl, rfl⟩
    · go_enter Tryd.func57, Tryd.ntmps57
      go_wp2
      go_ret
      exact ⟨rfl, Ext.refl _⟩
    · go_enter Tryd.func39, Tryd.ntmps39
      go_wp2
      go_ret
      exact ⟨rfl, Ext.refl _⟩
theorem c_message (v : Value) (l : List Nat) (w : World) (hv : BytesAt w v l) (hl : l.length ≤ maxLen) : Calls Tryd.prog 57 #[v] w fun e w' => e = .returned (.bool (isMessage l)) ∧ Ext w w' :=
  message_any _ _ (.inl ⟨rfl, rfl⟩) v l w hv hl (c_symbols v l w hv hl)
theorem r_Message (v : Value) (l : List Nat) (w : World) (hv : BytesAt w v l) (hl : l.length ≤ maxLen) : Calls Tryd.prog 39 #[v] w fun e w' => e = .returned (.bool (isMessage l)) ∧ Ext w w' :=
  message_any _ _ (.inr ⟨rfl, rfl⟩) v l w hv hl (r_symbols v l w hv hl)
end Go.Proofs.YtlnofbdhamingaaDoor
