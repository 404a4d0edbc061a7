/- Valid templates, turns, rounding: the program's walks. -/
import Derived.Test.YtipkjdfnoonpcaaHolds
import Derived.Test.YtipkjdfnoonpcaaPoseSpec
set_option linter.unusedVariables false
set_option linter.unusedSimpArgs false
namespace Go.Proofs.Ytipkjdfnoonpcaa
open Go.RowKit Go.Sort

/-- what 'slices.Max' answers, as far as it matters here -/
def MaxIs (l : List Int) (w : World) (e : Ending) (w' : World) : Prop := ∃ M : Int, e = .returned (.int .i64 M) ∧ (0 ≤ M ↔ ∃ n ∈ l, 0 ≤ n) ∧ Ext w w'
theorem ex_snoc {l : List Int} {k : Nat} (hk : k < l.length) : (∃ n ∈ l.take (k + 1), 0 ≤ n) ↔ (∃ n ∈ l.take k, 0 ≤ n) ∨ 0 ≤ l.getD k 0 := by
  rw [List.take_succ_eq_append_getElem hk, List.getD_eq_getElem?_getD, List.getElem?_eq_getElem hk]
  constructor
  · rintro ⟨n, hn, h0⟩
    rcases List.mem_append.1 hn with h9 | h9
    · exact .inl ⟨n, h9, h0⟩
    · have := List.mem_singleton.1 h9
      subst this
      exact .inr h0
  · rintro (⟨n, hn, h0⟩ | h0)
    · exact ⟨n, List.mem_append_left _ hn, h0⟩
    · exact ⟨_, List.mem_append_right _ (List.mem_singleton.2 rfl), h0⟩
set_option maxHeartbeats 2000000 in
theorem c94 (l : List Int) (v : Value) (w : World) (hv : IntsAt w v l) (h1 : 1 ≤ l.length) (hl : l.length ≤ maxLen) :
    Calls Try.prog 94 #[v] w (MaxIs l w) := by
  unfold maxLen at hl
  obtain ⟨ao, cap, rfl, -, hc⟩ := hv.form
  have HC := Lib.hid hc
  obtain ⟨b, off, rfl, c0⟩ := hc 0 (by omega)
  rw [Nat.add_zero] at c0
  obtain ⟨x0, hx0⟩ : ∃ x, l.getD 0 0 = x := ⟨_, rfl⟩
  rw [hx0] at c0
  have HX0 := Lib.hid hx0
  clear hc hv hx0
  go_enter Try.func94, Try.ntmps94
  go_wp2
  go_loop [3, 4] (fun mv i => ∃ (k : Nat) (M : Int), 1 ≤ k ∧ k ≤ l.length ∧ i = .int .i64 (k : Int) ∧ mv = .int .i64 M ∧ Hid (0 ≤ M ↔ ∃ n ∈ l.take k, 0 ≤ n)) (fun _ i => l.length - (intOf i).toNat)
  case atStart => exact ⟨1, x0, by omega, by omega, rfl, rfl, Lib.hid (by have := (ex_snoc (l := l) (k := 0) (by omega)); rw [HX0.out] at this; rw [this]; simp)⟩
  case round =>
    obtain ⟨k, M, hk1, hk, rfl, rfl, hI⟩ := hrel
    by_cases hkl : k < l.length
    · obtain ⟨b9, off9, he, c1⟩ := HC.out k hkl
      injection he with he
      injection he with e1 e2
      subst e1
      subst e2
      obtain ⟨x, hx⟩ : ∃ x, l.getD k 0 = x := ⟨_, rfl⟩
      rw [hx] at c1
      have HX := Lib.hid hx
      clear hx
      rcases Int.lt_or_le M x with hm | hm
      · go_wp2
        go_round
        case rel => exact ⟨k + 1, x, by omega, by omega, by go_num, rfl, Lib.hid (by rw [ex_snoc hkl, HX.out]; exact ⟨fun h => .inr h, fun h => by rcases h with h | h; have := hI.out.2 h; omega; exact h⟩)⟩
        case measure => simp [intOf]; omega
      · go_wp2
        go_round
        case rel => exact ⟨k + 1, M, by omega, by omega, by go_num, rfl, Lib.hid (by rw [ex_snoc hkl, HX.out]; exact ⟨fun h => .inl (hI.out.1 h), fun h => by rcases h with h | h; exact hI.out.2 h; omega⟩)⟩
        case measure => simp [intOf]; omega
    · have hT := hI.out
      rw [List.take_of_length_le (by omega)] at hT
      have HT := Lib.hid hT
      clear hT hI
      go_wp2
      go_ret
      exact ⟨M, rfl, HT.out, Ext.refl _⟩
def tplVal (t : Tpl) (v : Value) : Value := .agg #[.int .i64 t.w, .int .i64 t.h, v]
theorem mul_side8 {a b : Int} (h : (1 ≤ a ∧ a ≤ 8) ∧ 1 ≤ b ∧ b ≤ 8) : 1 ≤ a * b ∧ a * b ≤ 64 := by
  have h1 : 1 * 1 ≤ a * b := Int.mul_le_mul h.1.1 h.2.1 (by omega) (by omega)
  have h2 : a * b ≤ 8 * 8 := Int.mul_le_mul h.1.2 h.2.2 (by omega) (by omega)
  omega
set_option maxHeartbeats 4000000 in
theorem c56 (t : Tpl) (v : Value) (w : World) (hv : IntsAt w v t.pix) (hl : t.pix.length ≤ maxLen) :
    Calls Try.prog 56 #[tplVal t v] w fun e w' => e = .returned (.bool (decide t.Ok)) ∧ Ext w w' := by
  have HV := Lib.hid hv
  obtain ⟨ao, cap, rfl, -, -⟩ := hv.form
  have hlm : t.pix.length ≤ 9223372036854775807 := hl
  unfold tplVal
  by_cases hs : (1 ≤ t.w ∧ t.w ≤ 8) ∧ 1 ≤ t.h ∧ t.h ≤ 8
  case neg =>
    have q1 : decide ((1 ≤ t.w ∧ t.w ≤ 8) ∧ 1 ≤ t.h ∧ t.h ≤ 8) = false := decide_eq_false hs
    have HS := Lib.hid hs
    clear hs hv
    go_enter Try.func56, Try.ntmps56
    go_wp2_with (go_at_call 50; (with_reducible refine (within_two_same 50 (.inl rfl) _ _ _ _ _ _ (by simp)).mono ?_); rintro E w1 ⟨rfl, rfl⟩; have tok := True.intro)
    go_ret
    exact ⟨ret_bool (decide_eq_false (fun h => HS.out ⟨h.1.1, h.1.2.1⟩)).symm, (by repeat (first | exact Ext.refl _ | assumption | refine Ext.alloc ?_ _ | refine Ext.drewN ?_ _ | refine ext_grow ?_ _ _ | refine Ext.trans ?_ (by assumption)))⟩
  obtain ⟨p1, p2⟩ := mul_side8 hs
  have q1 : decide ((1 ≤ t.w ∧ t.w ≤ 8) ∧ 1 ≤ t.h ∧ t.h ≤ 8) = true := decide_eq_true hs
  have HS := Lib.hid hs
  clear hs
  by_cases hn : (t.pix.length : Int) = t.w * t.h
  case neg =>
    have q2 : ((t.pix.length : Int) == t.w * t.h) = false := by simpa using hn
    have HN := Lib.hid hn
    clear hn hv
    go_enter Try.func56, Try.ntmps56
    go_wp2_with (go_at_call 50; (with_reducible refine (within_two_same 50 (.inl rfl) _ _ _ _ _ _ (by simp)).mono ?_); rintro E w1 ⟨rfl, rfl⟩; have tok := True.intro)
    go_ret
    exact ⟨ret_bool (decide_eq_false (fun h => HN.out h.1.2.2)).symm, (by repeat (first | exact Ext.refl _ | assumption | refine Ext.alloc ?_ _ | refine Ext.drewN ?_ _ | refine ext_grow ?_ _ _ | refine Ext.trans ?_ (by assumption)))⟩
  have q2 : ((t.pix.length : Int) == t.w * t.h) = true := by simpa using hn
  have hlen1 : 1 ≤ t.pix.length := by omega
  have K94 := Lib.hid (fun w' (h : Ext w w') => c94 t.pix _ w' (HV.out.ext h) hlen1 hl)
  have HN := Lib.hid hn
  clear hn hv
  by_cases ha : allIn (-1) 255 t.pix
  case neg =>
    have q3 : decide (allIn (-1) 255 t.pix) = false := decide_eq_false ha
    have HA := Lib.hid ha
    clear ha
    go_enter Try.func56, Try.ntmps56
    go_wp2_with (first | (have _q := tok; go_at_call 50; (with_reducible refine (within_same 50 (.inl rfl) _ _ _ t.pix _ (HV.out.ext (by repeat (first | exact Ext.refl _ | assumption | refine Ext.alloc ?_ _ | refine Ext.drewN ?_ _ | refine ext_grow ?_ _ _ | refine Ext.trans ?_ (by assumption)))) hl).mono ?_); rintro E w2 ⟨rfl, rfl⟩) | (go_at_call 50; (with_reducible refine (within_two_same 50 (.inl rfl) _ _ _ _ _ _ (by simp)).mono ?_); rintro E w1 ⟨rfl, rfl⟩; have tok := True.intro))
    go_ret
    exact ⟨ret_bool (decide_eq_false (fun h => HA.out h.2.1)).symm, (by repeat (first | exact Ext.refl _ | assumption | refine Ext.alloc ?_ _ | refine Ext.drewN ?_ _ | refine ext_grow ?_ _ _ | refine Ext.trans ?_ (by assumption)))⟩
  have q3 : decide (allIn (-1) 255 t.pix) = true := decide_eq_true ha
  have HA := Lib.hid ha
  clear ha
  go_enter Try.func56, Try.ntmps56
  go_wp2_with (first | (have _q := tok; go_at_call 50; (with_reducible refine (within_same 50 (.inl rfl) _ _ _ t.pix _ (HV.out.ext (by repeat (first | exact Ext.refl _ | assumption | refine Ext.alloc ?_ _ | refine Ext.drewN ?_ _ | refine ext_grow ?_ _ _ | refine Ext.trans ?_ (by assumption)))) hl).mono ?_); rintro E w2 ⟨rfl, rfl⟩) | (go_at_call 50; (with_reducible refine (within_two_same 50 (.inl rfl) _ _ _ _ _ _ (by simp)).mono ?_); rintro E w1 ⟨rfl, rfl⟩; have tok := True.intro) | (go_at_call 94; (with_reducible refine (K94.out _ (by repeat (first | exact Ext.refl _ | assumption | refine Ext.alloc ?_ _ | refine Ext.drewN ?_ _ | refine ext_grow ?_ _ _ | refine Ext.trans ?_ (by assumption)))).mono ?_); rintro E w3 ⟨M, rfl, hM, hb⟩; have HM := Lib.hid hM; clear hM))
  go_ret
  exact ⟨ret_bool (decide_eq_decide.2 (HM.out.trans ⟨fun h => ⟨⟨HS.out.1, HS.out.2, HN.out⟩, HA.out, h⟩, fun h => h.2.2⟩)), (by repeat (first | exact Ext.refl _ | assumption | refine Ext.alloc ?_ _ | refine Ext.drewN ?_ _ | refine ext_grow ?_ _ _ | refine Ext.trans ?_ (by assumption)))⟩
set_option maxHeartbeats 4000000 in
theorem c57 (turn scale : Int) (w : World) : Calls Try.prog 57 #[.int .i64 turn, .int .i64 scale] w fun e w' => e = .returned (.bool (decide (Posed turn scale))) ∧ Ext w w' := by
  by_cases h1 : 0 ≤ turn ∧ turn ≤ 11
  case neg =>
    have q1 : decide (0 ≤ turn ∧ turn ≤ 11) = false := decide_eq_false h1
    have H1 := Lib.hid h1
    clear h1
    go_enter Try.func57, Try.ntmps57
    go_wp2_with (go_at_call 50; (with_reducible refine (within_one_same 50 (.inl rfl) _ _ _ _ _ (by simp)).mono ?_); rintro E w' ⟨rfl, rfl⟩)
    go_ret
    exact ⟨ret_bool (decide_eq_false (fun h => H1.out h.1)).symm, (by repeat (first | exact Ext.refl _ | assumption | refine Ext.alloc ?_ _ | refine Ext.drewN ?_ _ | refine ext_grow ?_ _ _ | refine Ext.trans ?_ (by assumption)))⟩
  have q1 : decide (0 ≤ turn ∧ turn ≤ 11) = true := decide_eq_true h1
  have H1 := Lib.hid h1
  clear h1
  go_enter Try.func57, Try.ntmps57
  go_wp2_with (go_at_call 50; (with_reducible refine (within_one_same 50 (.inl rfl) _ _ _ _ _ (by simp)).mono ?_); rintro E w' ⟨rfl, rfl⟩)
  go_ret
  exact ⟨ret_bool (by have := H1.out; simp [Posed, this.1, this.2]), (by repeat (first | exact Ext.refl _ | assumption | refine Ext.alloc ?_ _ | refine Ext.drewN ?_ _ | refine ext_grow ?_ _ _ | refine Ext.trans ?_ (by assumption)))⟩
set_option maxHeartbeats 4000000 in
theorem c95 (a : Int) (w : World) (h1 : -1000 ≤ a) (h2 : a ≤ 1000) : Calls Try.prog 95 #[.int .i64 a, .int .i64 20] w fun e w' => e = .returned (.int .i64 (a / 20)) ∧ Ext w w' := by
  obtain ⟨q, hq⟩ : ∃ q, a.tdiv 20 = q := ⟨_, rfl⟩
  have hb := tdiv_two (a := a) (b := 20) (by omega)
  rw [hq] at hb
  have hq1 : -60 ≤ q ∧ q ≤ 60 := by omega
  obtain ⟨q1, q2⟩ := hq1
  by_cases hlt : a < q * 20
  · have e9 := floor_yes (a := a) (b := 20) (by omega) (by rw [hq]; exact hlt)
    rw [hq] at e9
    have HE := Lib.hid e9
    clear e9 hb
    go_enter Try.func95, Try.ntmps95
    go_wp2
    go_ret
    exact ⟨ret_int HE.out, Ext.refl _⟩
  · have e9 := floor_no (a := a) (b := 20) (by omega) (by rw [hq]; omega)
    rw [hq] at e9
    have HE := Lib.hid e9
    clear e9 hb
    go_enter Try.func95, Try.ntmps95
    go_wp2
    go_ret
    exact ⟨ret_int HE.out, Ext.refl _⟩
end Go.Proofs.Ytipkjdfnoonpcaa
