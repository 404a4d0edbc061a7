/- The walks of Tell's search. -/
import Derived.Test.YtcbimfaneinpkaaGate2
import Derived.Test.YtcbimfaneinpkaaSteps2
set_option linter.unusedVariables false
set_option linter.unusedSimpArgs false
namespace Go.Proofs.Ytcbimfaneinpkaa
open Go.RowKit Go.Sort

def cmpId (x id : Int) : Int := if x < id then -1 else if id < x then 1 else 0
set_option maxHeartbeats 1000000 in
theorem w64 (x : Seen) (id : Int) (w : World) :
    Calls Try.prog 64 #[seenV x, .int .i64 id] w fun e w' => e = .returned (.int .i64 (cmpId x.id id)) ∧ Ext w w' := by
  obtain ⟨i, at_, v, h⟩ := x
  simp only
  by_cases h1 : i < id
  · rw [show cmpId i id = -1 from if_pos h1]
    go_enter Try.func64, Try.ntmps64
    go_wp2
    go_ret
    exact ⟨rfl, (Ext.refl _).alloc _⟩
  · by_cases h2 : id < i
    · rw [show cmpId i id = 1 by unfold cmpId; rw [if_neg h1, if_pos h2]]
      go_enter Try.func64, Try.ntmps64
      go_wp2
      go_ret
      exact ⟨rfl, (Ext.refl _).alloc _⟩
    · rw [show cmpId i id = 0 by unfold cmpId; rw [if_neg h1, if_neg h2]]
      go_enter Try.func64, Try.ntmps64
      go_wp2
      go_ret
      exact ⟨rfl, (Ext.refl _).alloc _⟩
/-- what a search by number finds -/
def FoundAt (l : List Seen) (id : Int) (w : World) (e : Ending) (w' : World) : Prop :=
  ∃ (i : Nat) (f : Bool), e = .returned (.tuple #[.int .i64 (i : Int), .bool f]) ∧ Ext w w' ∧ ((f = true ∧ place l id = i ∧ i < l.length) ∨ (f = false ∧ ¬ place l id < l.length))
theorem found_yes {l : List Seen} {id : Int} (hr : Rising l) {i : Nat} (hi : i < l.length) (h : (l.getD i seen0).id = id) : place l id = i := by
  rw [← h]
  exact place_of hr hi
theorem found_no {l : List Seen} {id : Int} (h : ∀ k, k < l.length → (l.getD k seen0).id ≠ id) : ¬ place l id < l.length := fun h1 => h _ h1 (place_spec h1)
set_option maxRecDepth 100000 in
set_option maxHeartbeats 4000000 in
theorem w63 (l : List Seen) (v : Value) (id : Int) (w : World) (hv : SeensAt w v l) (hl : l.length ≤ 1000000) (hr : Rising l) :
    Calls Try.prog 63 #[v, .int .i64 id, .func (.func 64) #[] #[]] w (FoundAt l id w) := by
  obtain ⟨ao, cap, rfl, -, hc⟩ := hv.form
  have HC := Lib.hid hc
  have HR := Lib.hid hr
  clear hc hr hv
  go_enter Try.func63, Try.ntmps63
  go_wp2
  go_loopw [9, 10] (fun i j wr => ∃ a b : Nat, a ≤ b ∧ b ≤ l.length ∧ i = .int .i64 (a : Int) ∧ j = .int .i64 (b : Int) ∧ Ext w wr ∧ Hid (∀ k, k < a → (l.getD k seen0).id < id) ∧ Hid (∀ k, b ≤ k → k < l.length → id ≤ (l.getD k seen0).id)) (fun i j _ => (intOf j - intOf i).toNat)
  case atStart => exact ⟨0, l.length, by omega, by omega, rfl, rfl, Ext.refl _, Lib.hid (fun k hk => by omega), Lib.hid (fun k h1 h2 => by omega)⟩
  case round =>
    obtain ⟨a, b, hab, hb, rfl, rfl, hE, hA, hB⟩ := hrel
    by_cases hlt : a < b
    · have hh : ((a : Int) + (b : Int)) / 2 = (((a + b) / 2 : Nat) : Int) := by omega
      obtain ⟨h, hh2⟩ : ∃ h, (a + b) / 2 = h := ⟨_, rfl⟩
      rw [hh2] at hh
      have hh3 : a ≤ h ∧ h < b := by omega
      obtain ⟨hh4, hh5⟩ := hh3
      have hh6 : h < l.length := by omega
      clear hh2
      obtain ⟨bo, off, rfl, c0, c1, c2, c3⟩ := HC.out h hh6
      have c0 := hE.get c0
      have c1 := hE.get c1
      have c2 := hE.get c2
      have c3 := hE.get c3
      obtain ⟨x, hx⟩ : ∃ x, l.getD h seen0 = x := ⟨_, rfl⟩
      rw [hx] at c0 c1 c2 c3
      have HX := Lib.hid hx
      clear hx
      have hcall := fun w => w64 x id w
      by_cases hxi : x.id < id
      · rw [show cmpId x.id id = -1 from if_pos hxi] at hcall
        have HCL := Lib.hid hcall
        clear hcall
        go_wp2_with (go_at_call 64; (with_reducible refine (HCL.out _).mono ?_); rintro e w1 ⟨rfl, h1⟩)
        go_roundw
        case rel => exact ⟨h + 1, b, by omega, hb, by go_num, rfl, hE.trans h1, Lib.hid (fun k hk => by
          rcases Nat.lt_or_ge k h with h9 | h9
          · have h8 := List.pairwise_iff_getElem.1 HR.out k h (by omega) hh6 h9
            rw [getD_get (by omega)]
            have h7 := HX.out
            rw [getD_get hh6] at h7
            rw [h7] at h8
            have := h8.1
            omega
          · obtain rfl : k = h := by omega
            rw [HX.out]; exact hxi), hB⟩
        case measure => simp [intOf]; omega
      · have hneg : ∃ c, cmpId x.id id = c ∧ decide (c < 0) = false := by
          unfold cmpId
          rw [if_neg hxi]
          split
          · exact ⟨1, rfl, rfl⟩
          · exact ⟨0, rfl, rfl⟩
        obtain ⟨c, hc1, hc2⟩ := hneg
        rw [hc1] at hcall
        have HCL := Lib.hid hcall
        have HC1 := Lib.hid hc1
        have HXI := Lib.hid hxi
        clear hcall hc1 hxi
        go_wp2_with (go_at_call 64; (with_reducible refine (HCL.out _).mono ?_); rintro e w1 ⟨rfl, h1⟩)
        go_roundw
        case rel => exact ⟨a, h, by omega, by omega, rfl, rfl, hE.trans h1, hA, Lib.hid (fun k hk hk2 => by
          have h6 := HXI.out
          rcases Nat.lt_or_ge h k with h9 | h9
          · have h8 := List.pairwise_iff_getElem.1 HR.out h k hh6 hk2 h9
            rw [getD_get hk2]
            have h7 := HX.out
            rw [getD_get hh6] at h7
            rw [h7] at h8
            have := h8.1
            omega
          · obtain rfl : k = h := by omega
            rw [HX.out]; omega)⟩
        case measure => simp [intOf]; omega
    · obtain rfl : a = b := by omega
      by_cases ha : a < l.length
      · obtain ⟨bo, off, rfl, c0, c1, c2, c3⟩ := HC.out a ha
        have c0 := hE.get c0
        have c1 := hE.get c1
        have c2 := hE.get c2
        have c3 := hE.get c3
        obtain ⟨x, hx⟩ : ∃ x, l.getD a seen0 = x := ⟨_, rfl⟩
        rw [hx] at c0 c1 c2 c3
        have HX := Lib.hid hx
        clear hx
        have hcall := fun w => w64 x id w
        by_cases hxi : x.id = id
        · rw [show cmpId x.id id = 0 by unfold cmpId; rw [if_neg (by omega), if_neg (by omega)]] at hcall
          have HCL := Lib.hid hcall
          have HXI := Lib.hid hxi
          clear hcall hxi
          go_wp2_with (go_at_call 64; (with_reducible refine (HCL.out _).mono ?_); rintro e w1 ⟨rfl, h1⟩)
          go_ret2
          exact ⟨a, true, rfl, hE.trans h1, .inl ⟨rfl, found_yes HR.out ha (by rw [HX.out]; exact HXI.out), ha⟩⟩
        · have hneg : ∃ c, cmpId x.id id = c ∧ (c == 0) = false := by
            unfold cmpId
            split
            · exact ⟨-1, rfl, rfl⟩
            · rw [if_pos (by omega)]
              exact ⟨1, rfl, rfl⟩
          obtain ⟨c, hc1, hc2⟩ := hneg
          rw [hc1] at hcall
          have HCL := Lib.hid hcall
          have HC1 := Lib.hid hc1
          have HXI := Lib.hid hxi
          clear hcall hc1 hxi
          go_wp2_with (go_at_call 64; (with_reducible refine (HCL.out _).mono ?_); rintro e w1 ⟨rfl, h1⟩)
          go_ret2
          refine ⟨a, false, rfl, hE.trans h1, .inr ⟨rfl, found_no fun k hk => ?_⟩⟩
          rcases Nat.lt_trichotomy k a with h9 | h9 | h9
          · have := hA.out k h9; omega
          · subst h9; rw [HX.out]; exact HXI.out
          · have h8 := List.pairwise_iff_getElem.1 HR.out a k ha hk h9
            have h7 := hB.out a (Nat.le_refl _) ha
            rw [getD_get hk]
            rw [getD_get ha] at h7
            have := h8.1
            omega
      · go_wp2
        go_ret2
        refine ⟨a, false, rfl, hE, .inr ⟨rfl, found_no fun k hk => ?_⟩⟩
        have := hA.out k (by omega)
        omega
end Go.Proofs.Ytcbimfaneinpkaa
