/- SameLists of two lists of one list each. -/
import Derived.Test.YtcbimfaneinpkaaMatched
set_option linter.unusedVariables false
set_option linter.unusedSimpArgs false
namespace Go.Proofs.Ytcbimfaneinpkaa
open Go.RowKit Go.Sort

theorem list_same {x y : List Nat} (hl : x.length = y.length) (h : ∀ j, j < x.length → x.getD j 0 = y.getD j 0) : x = y := by
  refine List.ext_getElem hl fun j h1 h2 => ?_
  have := h j h1
  rw [List.getD_eq_getElem?_getD, List.getD_eq_getElem?_getD, List.getElem?_eq_getElem h1, List.getElem?_eq_getElem h2] at this
  exact this
set_option maxRecDepth 100000 in
set_option maxHeartbeats 4000000 in
theorem w27b (x y : List Nat) (b1 o1 c1 b2 o2 c2 : Nat) (u1 u2 : Value) (w : World) (d1 : w.cell? ⟨b1, o1, none⟩ = some u1) (d2 : w.cell? ⟨b2, o2, none⟩ = some u2) (h1 : IntsAt w u1 (idx x)) (h2 : IntsAt w u2 (idx y)) (l1 : x.length ≤ 100) (l2 : y.length ≤ 100) :
    Calls Try.prog 27 #[.slice (some ⟨b1, o1, none⟩) 1 c1, .slice (some ⟨b2, o2, none⟩) 1 c2] w fun e w' => e = .returned (.bool (decide (x = y))) ∧ Ext w w' := by
  obtain ⟨a1, k1, rfl, -, hc1⟩ := h1.form
  obtain ⟨a2, k2, rfl, -, hc2⟩ := h2.form
  rw [idx_length] at hc1 hc2 d1 d2
  have D1 := Lib.hid d1
  have D2 := Lib.hid d2
  have H1 := Lib.hid hc1
  have H2 := Lib.hid hc2
  clear hc1 hc2 h1 h2 d1 d2
  obtain ⟨q, hq⟩ : ∃ q : Bool, decide (x = y) = q := ⟨_, rfl⟩
  rw [hq]
  have HQ := Lib.hid hq
  clear hq
  go_enter Try.func27, Try.ntmps27
  go_wp2
  go_loopw [5] (fun v wr => Ext w wr ∧ ∃ i : Nat, i ≤ 1 ∧ v = .int .i64 i ∧ Hid (i = 1 → q = true)) (fun v _ => 1 - (intOf v).toNat)
  case atStart => exact ⟨Ext.refl _, 0, Nat.zero_le _, rfl, Lib.hid (fun h => by omega)⟩
  case round =>
    obtain ⟨hE, i, hi, rfl, hS⟩ := hrel
    by_cases hil : i = 0
    · subst hil
      have d1 := hE.get D1.out
      have d2 := hE.get D2.out
      by_cases hxy : x.length = y.length
      · have g1 : ((x.length : Int) != (y.length : Int)) = false := by simp [hxy]
        have HL := Lib.hid hxy
        clear hxy
        go_wp2_with fail
        go_quiet (fail)
        have hE1 : Ext w (wr.drewN nq) := hE.drewN _
        generalize wr.drewN nq = wo at hE1
        clear d1 d2
        go_wp2
        go_loopw [6] (fun v wr => Ext w wr ∧ ∃ j : Nat, j ≤ x.length ∧ v = .int .i64 j ∧ Hid (∀ k, k < j → x.getD k 0 = y.getD k 0)) (fun v _ => x.length - (intOf v).toNat)
        case atStart => exact ⟨hE1, 0, Nat.zero_le _, rfl, Lib.hid (fun k hk => by omega)⟩
        case round =>
          obtain ⟨hE, j, hj, rfl, hP⟩ := hrel
          have d1 := hE.get D1.out
          have d2 := hE.get D2.out
          by_cases hjl : j < x.length
          · have hjy : j < y.length := by have := HL.out; omega
            obtain ⟨bx, ox, rfl, m1⟩ := H1.out j hjl
            obtain ⟨by_, oy, rfl, m2⟩ := H2.out j hjy
            rw [idx_get] at m1 m2
            have m1 := hE.get m1
            have m2 := hE.get m2
            have hji : (j : Int) < (x.length : Int) := by omega
            have hjk : (j : Int) < (y.length : Int) := by omega
            obtain ⟨p, hp⟩ : ∃ p, x.getD j 0 = p := ⟨_, rfl⟩
            obtain ⟨r, hr⟩ : ∃ r, y.getD j 0 = r := ⟨_, rfl⟩
            rw [hp] at m1
            rw [hr] at m2
            have HP := Lib.hid (And.intro hp hr)
            clear hp hr
            by_cases hpr : p = r
            · have t1 : ((p : Int) != (r : Int)) = false := by simp [hpr]
              have HR := Lib.hid hpr
              clear hpr
              go_wp2_with fail
              go_quiet (fail)
              go_wp2
              go_roundw
              case rel => exact ⟨hE.drewN _, j + 1, by omega, by go_num, Lib.hid (fun k hk => by
                rcases Nat.lt_or_ge k j with h | h
                · exact hP.out k h
                · obtain rfl : k = j := by omega
                  rw [HP.out.1, HP.out.2]; exact HR.out)⟩
              case measure => simp [intOf]; omega
            · have t1 : ((p : Int) != (r : Int)) = true := by simp; omega
              have hqf : q = false := by
                rw [← HQ.out]
                refine decide_eq_false fun e => hpr ?_
                rw [← HP.out.1, ← HP.out.2, e]
              clear hpr
              go_wp2_with fail
              go_quiet (fail)
              go_wp2
              go_ret
              exact ⟨by subst hqf; rfl, hE.drewN _⟩
          · obtain rfl : j = x.length := by omega
            have hqt : q = true := by
              rw [← HQ.out]
              exact decide_eq_true (list_same HL.out hP.out)
            have HT := Lib.hid hqt
            clear hqt hjl
            go_wp2
            go_roundw
            case rel => exact ⟨hE, 1, by omega, by go_num, Lib.hid (fun _ => HT.out)⟩
            case measure => simp [intOf]
      · have g1 : ((x.length : Int) != (y.length : Int)) = true := by simp; omega
        have hqf : q = false := by
          rw [← HQ.out]
          exact decide_eq_false fun e => hxy (by rw [e])
        clear hxy
        go_wp2_with fail
        go_quiet (fail)
        go_wp2
        go_ret
        exact ⟨by subst hqf; rfl, hE.drewN _⟩
    · obtain rfl : i = 1 := by omega
      have hqt := hS.out rfl
      clear hil
      go_wp2
      go_ret
      exact ⟨by subst hqt; rfl, hE⟩
end Go.Proofs.Ytcbimfaneinpkaa
