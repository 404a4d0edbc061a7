/- Layer 7's valid images, tools and slacks: the reference's functions, and both readings of what is ready. -/
import Derived.Test.YtipkjdfnoonpcaaBasic2
set_option linter.unusedVariables false
set_option linter.unusedSimpArgs false
namespace Go.Proofs.Ytipkjdfnoonpcaa
open Go.RowKit Go.Sort

set_option maxHeartbeats 2000000 in
theorem c45 (m : Img) (v : Value) (w : World) (hv : IntsAt w v m.pix) (hl : m.pix.length ≤ maxLen) :
    Calls Try.prog 45 #[imgVal m v] w fun e w' => e = .returned (.bool (decide m.Valid)) ∧ Ext w w' := by
  obtain ⟨ao, cap, rfl, -, hc⟩ := hv.form
  have HC := Lib.hid hc
  have hlm : m.pix.length ≤ 9223372036854775807 := hl
  unfold imgVal
  clear hv hc
  by_cases hs : 1 ≤ m.w ∧ m.w ≤ 16
  case neg =>
    have q1 : decide (1 ≤ m.w ∧ m.w ≤ 16) = false := decide_eq_false hs
    have HS := Lib.hid hs
    clear hs
    go_enter Try.func45, Try.ntmps45
    go_wp2_with (go_at_call 83; (with_reducible refine (rwithin_same 83 (.inr rfl) _ _ _ _).mono ?_); rintro e w' ⟨rfl, rfl⟩)
    go_ret
    exact ⟨ret_bool (decide_eq_false (fun h => HS.out h.1.1)).symm, (by repeat (first | exact Ext.refl _ | assumption | refine Ext.alloc ?_ _ | refine Ext.drewN ?_ _ | refine ext_grow ?_ _ _ | refine Ext.trans ?_ (by assumption)))⟩
  by_cases ht : 1 ≤ m.h ∧ m.h ≤ 16
  case neg =>
    have q1 : decide (1 ≤ m.w ∧ m.w ≤ 16) = true := decide_eq_true hs
    have q2 : decide (1 ≤ m.h ∧ m.h ≤ 16) = false := decide_eq_false ht
    have HS := Lib.hid ht
    clear hs ht
    go_enter Try.func45, Try.ntmps45
    go_wp2_with (go_at_call 83; (with_reducible refine (rwithin_same 83 (.inr rfl) _ _ _ _).mono ?_); rintro e w' ⟨rfl, rfl⟩)
    go_ret
    exact ⟨ret_bool (decide_eq_false (fun h => HS.out h.1.2.1)).symm, (by repeat (first | exact Ext.refl _ | assumption | refine Ext.alloc ?_ _ | refine Ext.drewN ?_ _ | refine ext_grow ?_ _ _ | refine Ext.trans ?_ (by assumption)))⟩
  obtain ⟨p1, p2⟩ := mul_side ⟨hs, ht⟩
  have q1 : decide (1 ≤ m.w ∧ m.w ≤ 16) = true := decide_eq_true hs
  have q2 : decide (1 ≤ m.h ∧ m.h ≤ 16) = true := decide_eq_true ht
  have HS := Lib.hid hs
  have HT := Lib.hid ht
  clear hs ht
  by_cases hn : (m.pix.length : Int) = m.w * m.h
  case neg =>
    have q3 : ((m.pix.length : Int) != m.w * m.h) = true := by simpa using hn
    have HN := Lib.hid hn
    clear hn
    go_enter Try.func45, Try.ntmps45
    go_wp2_with (go_at_call 83; (with_reducible refine (rwithin_same 83 (.inr rfl) _ _ _ _).mono ?_); rintro e w' ⟨rfl, rfl⟩)
    go_ret
    exact ⟨ret_bool (decide_eq_false (fun h => HN.out h.1.2.2)).symm, (by repeat (first | exact Ext.refl _ | assumption | refine Ext.alloc ?_ _ | refine Ext.drewN ?_ _ | refine ext_grow ?_ _ _ | refine Ext.trans ?_ (by assumption)))⟩
  have q3 : ((m.pix.length : Int) != m.w * m.h) = false := by simpa using hn
  have HN := Lib.hid hn
  clear hn
  go_enter Try.func45, Try.ntmps45
  go_wp2_with (go_at_call 83; (with_reducible refine (rwithin_same 83 (.inr rfl) _ _ _ _).mono ?_); rintro e w' ⟨rfl, rfl⟩)
  go_loop [3] (fun i => ∃ k : Nat, k ≤ m.pix.length ∧ i = .int .i64 (k : Int) ∧ Hid (allIn (-2147483648) 2147483648 (m.pix.take k))) (fun i => m.pix.length - (intOf i).toNat)
  case atStart => exact ⟨0, Nat.zero_le _, rfl, Lib.hid (fun n hn => by simp at hn)⟩
  case round =>
    obtain ⟨k, hk, rfl, hI⟩ := hrel
    by_cases hkl : k < m.pix.length
    · obtain ⟨b, off, rfl, c0⟩ := HC.out k hkl
      obtain ⟨x, hx⟩ : ∃ x, m.pix.getD k 0 = x := ⟨_, rfl⟩
      rw [hx] at c0
      have HX := Lib.hid hx
      have z0 := World.block_lt_of_cell? _ _ c0
      simp only at z0
      clear hx
      by_cases h1 : -2147483648 ≤ x ∧ x ≤ 2147483648
      · have q4 : decide (-2147483648 ≤ x ∧ x ≤ 2147483648) = true := decide_eq_true h1
        have H1 := Lib.hid h1
        clear h1
        go_wp2_with (go_at_call 83; (with_reducible refine (rwithin_same 83 (.inr rfl) _ _ _ _).mono ?_); rintro e w' ⟨rfl, rfl⟩)
        go_round
        case rel => exact ⟨k + 1, by omega, by go_num, Lib.hid ((allIn_snoc hkl).2 ⟨hI.out, by rw [HX.out]; exact H1.out⟩)⟩
        case measure => simp [intOf]; omega
      · have q4 : decide (-2147483648 ≤ x ∧ x ≤ 2147483648) = false := decide_eq_false h1
        have H1 := Lib.hid h1
        clear h1
        go_wp2_with (go_at_call 83; (with_reducible refine (rwithin_same 83 (.inr rfl) _ _ _ _).mono ?_); rintro e w' ⟨rfl, rfl⟩)
        go_ret
        exact ⟨ret_bool (decide_eq_false (fun h => allIn_not hkl (by rw [HX.out]; exact H1.out) h.2)).symm, (by repeat (first | exact Ext.refl _ | assumption | refine Ext.alloc ?_ _ | refine Ext.drewN ?_ _ | refine ext_grow ?_ _ _ | refine Ext.trans ?_ (by assumption)))⟩
    · go_wp2
      go_ret
      have := hI.out
      rw [List.take_of_length_le (by omega)] at this
      exact ⟨ret_bool (decide_eq_true ⟨⟨HS.out, HT.out, HN.out⟩, this⟩).symm, (by repeat (first | exact Ext.refl _ | assumption | refine Ext.alloc ?_ _ | refine Ext.drewN ?_ _ | refine ext_grow ?_ _ _ | refine Ext.trans ?_ (by assumption)))⟩
set_option maxHeartbeats 2000000 in
theorem c42 (m : Img) (v : Value) (w : World) (hv : IntsAt w v m.pix) (hl : m.pix.length ≤ maxLen) :
    Calls Try.prog 42 #[imgVal m v] w fun e w' => e = .returned (.bool (decide m.Camera)) ∧ Ext w w' := by
  have HV := Lib.hid hv
  obtain ⟨ao, cap, rfl, -, -⟩ := hv.form
  have K := Lib.hid (fun w' (h : Ext w w') => c45 m _ w' (HV.out.ext h) hl)
  have hlm : m.pix.length ≤ 9223372036854775807 := hl
  unfold imgVal at K ⊢
  clear hv
  by_cases hs : m.Valid
  case neg =>
    have hk : decide m.Valid = false := decide_eq_false hs
    rw [hk] at K
    have HS := Lib.hid hs
    clear hs hk
    go_enter Try.func42, Try.ntmps42
    go_wp2_with (go_at_call 45; (with_reducible refine (K.out _ (by repeat (first | exact Ext.refl _ | assumption | refine Ext.alloc ?_ _ | refine Ext.drewN ?_ _ | refine ext_grow ?_ _ _ | refine Ext.trans ?_ (by assumption)))).mono ?_); rintro e w1 ⟨rfl, hb⟩)
    go_ret
    exact ⟨ret_bool (decide_eq_false (fun h => HS.out ((Img.camera_iff m).1 h).1)).symm, (by repeat (first | exact Ext.refl _ | assumption | refine Ext.alloc ?_ _ | refine Ext.drewN ?_ _ | refine ext_grow ?_ _ _ | refine Ext.trans ?_ (by assumption)))⟩
  have hk : decide m.Valid = true := decide_eq_true hs
  rw [hk] at K
  have HS := Lib.hid hs
  clear hs hk
  go_enter Try.func42, Try.ntmps42
  go_wp2_with (go_at_call 45; (with_reducible refine (K.out _ (by repeat (first | exact Ext.refl _ | assumption | refine Ext.alloc ?_ _ | refine Ext.drewN ?_ _ | refine ext_grow ?_ _ _ | refine Ext.trans ?_ (by assumption)))).mono ?_); rintro e w1 ⟨rfl, hb⟩; have hc := hb.cell; have hf := hb.frozen; have hz := hb.size)
  have hE : Ext w w1 := (by repeat (first | exact Ext.refl _ | assumption | refine Ext.alloc ?_ _ | refine Ext.drewN ?_ _ | refine ext_grow ?_ _ _ | refine Ext.trans ?_ (by assumption)))
  obtain ⟨⟨c0, c1, c2⟩, f0, f1, f2⟩ := run_3 (hb.blk (one_first w _))
  have HV1 := Lib.hid (HV.out.ext hE)
  clear hc hf
  go_loop [3] (fun i => ∃ k : Nat, k ≤ m.pix.length ∧ i = .int .i64 (k : Int) ∧ Hid (allIn 0 255 (m.pix.take k))) (fun i => m.pix.length - (intOf i).toNat)
  case atStart => exact ⟨0, Nat.zero_le _, rfl, Lib.hid (fun n hn => by simp at hn)⟩
  case round =>
    obtain ⟨k, hk, rfl, hI⟩ := hrel
    by_cases hkl : k < m.pix.length
    · obtain ⟨ao2, cap2, he, -, hc2⟩ := HV1.out.form
      injection he with e1 _ e2
      subst e1
      subst e2
      obtain ⟨b, off, rfl, c3⟩ := hc2 k hkl
      obtain ⟨x, hx⟩ : ∃ x, m.pix.getD k 0 = x := ⟨_, rfl⟩
      rw [hx] at c3
      have HX := Lib.hid hx
      clear hx hc2
      by_cases h1 : 0 ≤ x ∧ x ≤ 255
      · have q4 : decide (0 ≤ x ∧ x ≤ 255) = true := decide_eq_true h1
        have H1 := Lib.hid h1
        clear h1
        go_wp2_with (go_at_call 61; (with_reducible refine (rwithin_same 61 (.inl rfl) _ _ _ _).mono ?_); rintro e w' ⟨rfl, rfl⟩)
        go_round
        case rel => exact ⟨k + 1, by omega, by go_num, Lib.hid ((allIn_snoc hkl).2 ⟨hI.out, by rw [HX.out]; exact H1.out⟩)⟩
        case measure => simp [intOf]; omega
      · have q4 : decide (0 ≤ x ∧ x ≤ 255) = false := decide_eq_false h1
        have H1 := Lib.hid h1
        clear h1
        go_wp2_with (go_at_call 61; (with_reducible refine (rwithin_same 61 (.inl rfl) _ _ _ _).mono ?_); rintro e w' ⟨rfl, rfl⟩)
        go_ret
        exact ⟨ret_bool (decide_eq_false (fun h => allIn_not hkl (by rw [HX.out]; exact H1.out) h.2)).symm, hE⟩
    · go_wp2
      go_ret
      have := hI.out
      rw [List.take_of_length_le (by omega)] at this
      exact ⟨ret_bool (decide_eq_true ((Img.camera_iff m).2 ⟨HS.out, this⟩)).symm, hE⟩
def toolVal (t : Tool) : Value := .agg #[.int .i64 t.len, .int .i64 t.grip, .int .i64 t.palm]
set_option maxHeartbeats 2000000 in
theorem c91 (t : Tool) (w : World) : Calls Try.prog 91 #[toolVal t] w fun e w' => e = .returned (.bool (decide t.Ok)) ∧ Ext w w' := by
  unfold toolVal
  by_cases h1 : 1 ≤ t.len ∧ t.len ≤ 4
  case neg =>
    have q1 : decide (1 ≤ t.len ∧ t.len ≤ 4) = false := decide_eq_false h1
    have H1 := Lib.hid h1
    clear h1
    go_enter Try.func91, Try.ntmps91
    go_wp2_with (go_at_call 61; (with_reducible refine (rwithin_same 61 (.inl rfl) _ _ _ _).mono ?_); rintro e w' ⟨rfl, rfl⟩)
    go_ret
    exact ⟨ret_bool (decide_eq_false (fun h => H1.out h.1)).symm, (by repeat (first | exact Ext.refl _ | assumption | refine Ext.alloc ?_ _ | refine Ext.drewN ?_ _ | refine ext_grow ?_ _ _ | refine Ext.trans ?_ (by assumption)))⟩
  have q1 : decide (1 ≤ t.len ∧ t.len ≤ 4) = true := decide_eq_true h1
  have H1 := Lib.hid h1
  clear h1
  by_cases h2 : 1 ≤ t.grip
  case neg =>
    go_enter Try.func91, Try.ntmps91
    go_wp2_with (go_at_call 61; (with_reducible refine (rwithin_same 61 (.inl rfl) _ _ _ _).mono ?_); rintro e w' ⟨rfl, rfl⟩)
    go_ret
    exact ⟨ret_bool (decide_eq_false (fun h => by have := h.2.1; omega)).symm, (by repeat (first | exact Ext.refl _ | assumption | refine Ext.alloc ?_ _ | refine Ext.drewN ?_ _ | refine ext_grow ?_ _ _ | refine Ext.trans ?_ (by assumption)))⟩
  by_cases h3 : t.grip ≤ t.palm
  case neg =>
    go_enter Try.func91, Try.ntmps91
    go_wp2_with (go_at_call 61; (with_reducible refine (rwithin_same 61 (.inl rfl) _ _ _ _).mono ?_); rintro e w' ⟨rfl, rfl⟩)
    go_ret
    exact ⟨ret_bool (decide_eq_false (fun h => by have := h.2.2.1; omega)).symm, (by repeat (first | exact Ext.refl _ | assumption | refine Ext.alloc ?_ _ | refine Ext.drewN ?_ _ | refine ext_grow ?_ _ _ | refine Ext.trans ?_ (by assumption)))⟩
  by_cases h4 : t.palm ≤ 255
  case neg =>
    go_enter Try.func91, Try.ntmps91
    go_wp2_with (go_at_call 61; (with_reducible refine (rwithin_same 61 (.inl rfl) _ _ _ _).mono ?_); rintro e w' ⟨rfl, rfl⟩)
    go_ret
    exact ⟨ret_bool (decide_eq_decide.2 ⟨fun h => absurd h (by omega), fun h => h.2.2.2⟩), (by repeat (first | exact Ext.refl _ | assumption | refine Ext.alloc ?_ _ | refine Ext.drewN ?_ _ | refine ext_grow ?_ _ _ | refine Ext.trans ?_ (by assumption)))⟩
  go_enter Try.func91, Try.ntmps91
  go_wp2_with (go_at_call 61; (with_reducible refine (rwithin_same 61 (.inl rfl) _ _ _ _).mono ?_); rintro e w' ⟨rfl, rfl⟩)
  go_ret
  exact ⟨ret_bool (decide_eq_true ⟨H1.out, h2, h3, h4⟩).symm, (by repeat (first | exact Ext.refl _ | assumption | refine Ext.alloc ?_ _ | refine Ext.drewN ?_ _ | refine ext_grow ?_ _ _ | refine Ext.trans ?_ (by assumption)))⟩
/-- the error of a height map, a tool and a slack -/
def readyE (m : Img) (t : Tool) (slack : Int) : Int := if m.Camera then if t.Ok then if 0 ≤ slack ∧ slack ≤ 2 then 0 else 2 else 72 else 20
set_option maxHeartbeats 2000000 in
theorem c52 (m : Img) (v : Value) (t : Tool) (slack : Int) (w : World) (hv : IntsAt w v m.pix) (hl : m.pix.length ≤ maxLen) :
    Calls Try.prog 52 #[imgVal m v, toolVal t, .int .i64 slack] w fun e w' => e = .returned (.int .i64 (readyE m t slack)) ∧ Ext w w' := by
  have HV := Lib.hid hv
  obtain ⟨ao, cap, rfl, -, -⟩ := hv.form
  have K := Lib.hid (fun w' (h : Ext w w') => c42 m _ w' (HV.out.ext h) hl)
  have KT := Lib.hid (fun w' => c91 t w')
  unfold imgVal toolVal at *
  clear hv
  by_cases h1 : m.Camera
  case neg =>
    have q1 : decide m.Camera = false := decide_eq_false h1
    rw [q1] at K
    have H1 := Lib.hid h1
    clear h1 q1
    go_enter Try.func52, Try.ntmps52
    go_wp2_with (go_at_call 42; (with_reducible refine (K.out _ (by repeat (first | exact Ext.refl _ | assumption | refine Ext.alloc ?_ _ | refine Ext.drewN ?_ _ | refine ext_grow ?_ _ _ | refine Ext.trans ?_ (by assumption)))).mono ?_); rintro e w1 ⟨rfl, hb⟩)
    go_ret
    exact ⟨ret_int (by unfold readyE; rw [if_neg H1.out]), (by repeat (first | exact Ext.refl _ | assumption | refine Ext.alloc ?_ _ | refine Ext.drewN ?_ _ | refine ext_grow ?_ _ _ | refine Ext.trans ?_ (by assumption)))⟩
  have q1 : decide m.Camera = true := decide_eq_true h1
  rw [q1] at K
  have H1 := Lib.hid h1
  clear h1 q1
  by_cases h2 : t.Ok
  case neg =>
    have q1 : decide t.Ok = false := decide_eq_false h2
    rw [q1] at KT
    have H2 := Lib.hid h2
    clear h2 q1
    go_enter Try.func52, Try.ntmps52
    go_wp2_with (first | (go_at_call 42; (with_reducible refine (K.out _ (by repeat (first | exact Ext.refl _ | assumption | refine Ext.alloc ?_ _ | refine Ext.drewN ?_ _ | refine ext_grow ?_ _ _ | refine Ext.trans ?_ (by assumption)))).mono ?_); rintro e w1 ⟨rfl, hb⟩; have hc := hb.cell; have hf := hb.frozen; have hz := hb.size) | (go_at_call 91; (with_reducible refine (KT.out _).mono ?_); rintro e w2 ⟨rfl, hb2⟩))
    go_ret
    exact ⟨ret_int (by unfold readyE; rw [if_pos H1.out, if_neg H2.out]), (by repeat (first | exact Ext.refl _ | assumption | refine Ext.alloc ?_ _ | refine Ext.drewN ?_ _ | refine ext_grow ?_ _ _ | refine Ext.trans ?_ (by assumption)))⟩
  have q1 : decide t.Ok = true := decide_eq_true h2
  rw [q1] at KT
  have H2 := Lib.hid h2
  clear h2 q1
  by_cases h3 : 0 ≤ slack ∧ slack ≤ 2
  case neg =>
    have q1 : decide (0 ≤ slack ∧ slack ≤ 2) = false := decide_eq_false h3
    have H3 := Lib.hid h3
    clear h3
    go_enter Try.func52, Try.ntmps52
    go_wp2_with (first | (go_at_call 42; (with_reducible refine (K.out _ (by repeat (first | exact Ext.refl _ | assumption | refine Ext.alloc ?_ _ | refine Ext.drewN ?_ _ | refine ext_grow ?_ _ _ | refine Ext.trans ?_ (by assumption)))).mono ?_); rintro e w1 ⟨rfl, hb⟩; have hc := hb.cell; have hf := hb.frozen; have hz := hb.size) | (go_at_call 91; (with_reducible refine (KT.out _).mono ?_); rintro e w2 ⟨rfl, hb2⟩) | (go_at_call 61; (with_reducible refine (rwithin_same 61 (.inl rfl) _ _ _ _).mono ?_); rintro e w' ⟨rfl, rfl⟩))
    go_ret
    exact ⟨ret_int (by unfold readyE; rw [if_pos H1.out, if_pos H2.out, if_neg H3.out]), (by repeat (first | exact Ext.refl _ | assumption | refine Ext.alloc ?_ _ | refine Ext.drewN ?_ _ | refine ext_grow ?_ _ _ | refine Ext.trans ?_ (by assumption)))⟩
  have q1 : decide (0 ≤ slack ∧ slack ≤ 2) = true := decide_eq_true h3
  have H3 := Lib.hid h3
  clear h3
  go_enter Try.func52, Try.ntmps52
  go_wp2_with (first | (go_at_call 42; (with_reducible refine (K.out _ (by repeat (first | exact Ext.refl _ | assumption | refine Ext.alloc ?_ _ | refine Ext.drewN ?_ _ | refine ext_grow ?_ _ _ | refine Ext.trans ?_ (by assumption)))).mono ?_); rintro e w1 ⟨rfl, hb⟩; have hc := hb.cell; have hf := hb.frozen; have hz := hb.size) | (go_at_call 91; (with_reducible refine (KT.out _).mono ?_); rintro e w2 ⟨rfl, hb2⟩) | (go_at_call 61; (with_reducible refine (rwithin_same 61 (.inl rfl) _ _ _ _).mono ?_); rintro e w' ⟨rfl, rfl⟩))
  go_ret
  exact ⟨ret_int (by unfold readyE; rw [if_pos H1.out, if_pos H2.out, if_pos H3.out]), (by repeat (first | exact Ext.refl _ | assumption | refine Ext.alloc ?_ _ | refine Ext.drewN ?_ _ | refine ext_grow ?_ _ _ | refine Ext.trans ?_ (by assumption)))⟩
set_option maxHeartbeats 4000000 in
theorem c49 (m : Img) (v : Value) (t : Tool) (slack : Int) (w : World) (hv : IntsAt w v m.pix) (hl : m.pix.length ≤ maxLen) :
    Calls Try.prog 49 #[imgVal m v, toolVal t, .int .i64 slack] w fun e w' => e = .returned (.int .i64 (readyE m t slack)) ∧ Ext w w' := by
  have HV := Lib.hid hv
  obtain ⟨ao, cap, rfl, -, -⟩ := hv.form
  have K := Lib.hid (fun w' (h : Ext w w') => c89 m _ w' (HV.out.ext h) hl)
  unfold imgVal toolVal at *
  clear hv
  by_cases h1 : m.Camera
  case neg =>
    have q1 : decide m.Camera = false := decide_eq_false h1
    rw [q1] at K
    have H1 := Lib.hid h1
    clear h1 q1
    go_enter Try.func49, Try.ntmps49
    go_wp2_with (go_at_call 89; (with_reducible refine (K.out _ (by repeat (first | exact Ext.refl _ | assumption | refine Ext.alloc ?_ _ | refine Ext.drewN ?_ _ | refine ext_grow ?_ _ _ | refine Ext.trans ?_ (by assumption)))).mono ?_); rintro e w1 ⟨rfl, hb⟩; have hc := hb.cell; have hf := hb.frozen; have hz : w.heap.size + 1 < w1.heap.size := by have := hb.size; simp at this; omega)
    go_ret
    exact ⟨ret_int (by unfold readyE; rw [if_neg H1.out]), (by repeat (first | exact Ext.refl _ | assumption | refine Ext.alloc ?_ _ | refine Ext.drewN ?_ _ | refine ext_grow ?_ _ _ | refine Ext.trans ?_ (by assumption)))⟩
  have q1 : decide m.Camera = true := decide_eq_true h1
  rw [q1] at K
  have H1 := Lib.hid h1
  clear h1 q1
  by_cases h2 : 1 ≤ t.len ∧ t.len ≤ 4
  case neg =>
    have q1 : decide (1 ≤ t.len ∧ t.len ≤ 4) = false := decide_eq_false h2
    have H2 := Lib.hid h2
    clear h2
    go_enter Try.func49, Try.ntmps49
    go_wp2_with (first | (go_at_call 89; (with_reducible refine (K.out _ (by repeat (first | exact Ext.refl _ | assumption | refine Ext.alloc ?_ _ | refine Ext.drewN ?_ _ | refine ext_grow ?_ _ _ | refine Ext.trans ?_ (by assumption)))).mono ?_); rintro e w1 ⟨rfl, hb⟩; have hc := hb.cell; have hf := hb.frozen; have hz : w.heap.size + 1 < w1.heap.size := by have := hb.size; simp at this; omega) | (have _q := hb; go_at_call 50; (with_reducible refine (within_one_same 50 (.inl rfl) 1 4 _ _ _ (by simp)).mono ?_); rintro e w2 ⟨rfl, rfl⟩))
    go_ret
    refine ⟨ret_int ?_, (by repeat (first | exact Ext.refl _ | assumption | refine Ext.alloc ?_ _ | refine Ext.drewN ?_ _ | refine ext_grow ?_ _ _ | refine Ext.trans ?_ (by assumption)))⟩; unfold readyE; rw [if_pos H1.out]; exact (if_neg (fun h => H2.out h.1)).symm
  have q1 : decide (1 ≤ t.len ∧ t.len ≤ 4) = true := decide_eq_true h2
  have H2 := Lib.hid h2
  clear h2
  by_cases h3 : 1 ≤ t.grip
  case neg =>
    go_enter Try.func49, Try.ntmps49
    go_wp2_with (first | (go_at_call 89; (with_reducible refine (K.out _ (by repeat (first | exact Ext.refl _ | assumption | refine Ext.alloc ?_ _ | refine Ext.drewN ?_ _ | refine ext_grow ?_ _ _ | refine Ext.trans ?_ (by assumption)))).mono ?_); rintro e w1 ⟨rfl, hb⟩; have hc := hb.cell; have hf := hb.frozen; have hz : w.heap.size + 1 < w1.heap.size := by have := hb.size; simp at this; omega) | (have _q := hb; go_at_call 50; (with_reducible refine (within_one_same 50 (.inl rfl) 1 4 _ _ _ (by simp)).mono ?_); rintro e w2 ⟨rfl, rfl⟩))
    go_ret
    refine ⟨ret_int ?_, (by repeat (first | exact Ext.refl _ | assumption | refine Ext.alloc ?_ _ | refine Ext.drewN ?_ _ | refine ext_grow ?_ _ _ | refine Ext.trans ?_ (by assumption)))⟩; unfold readyE; rw [if_pos H1.out]; exact (if_neg (fun h => by have := h.2.1; omega)).symm
  by_cases h4 : t.grip ≤ t.palm
  case neg =>
    go_enter Try.func49, Try.ntmps49
    go_wp2_with (first | (go_at_call 89; (with_reducible refine (K.out _ (by repeat (first | exact Ext.refl _ | assumption | refine Ext.alloc ?_ _ | refine Ext.drewN ?_ _ | refine ext_grow ?_ _ _ | refine Ext.trans ?_ (by assumption)))).mono ?_); rintro e w1 ⟨rfl, hb⟩; have hc := hb.cell; have hf := hb.frozen; have hz : w.heap.size + 1 < w1.heap.size := by have := hb.size; simp at this; omega) | (have _q := hb; go_at_call 50; (with_reducible refine (within_one_same 50 (.inl rfl) 1 4 _ _ _ (by simp)).mono ?_); rintro e w2 ⟨rfl, rfl⟩))
    go_ret
    refine ⟨ret_int ?_, (by repeat (first | exact Ext.refl _ | assumption | refine Ext.alloc ?_ _ | refine Ext.drewN ?_ _ | refine ext_grow ?_ _ _ | refine Ext.trans ?_ (by assumption)))⟩; unfold readyE; rw [if_pos H1.out]; exact (if_neg (fun h => by have := h.2.2.1; omega)).symm
  by_cases h5 : t.palm ≤ 255
  case neg =>
    go_enter Try.func49, Try.ntmps49
    go_wp2_with (first | (go_at_call 89; (with_reducible refine (K.out _ (by repeat (first | exact Ext.refl _ | assumption | refine Ext.alloc ?_ _ | refine Ext.drewN ?_ _ | refine ext_grow ?_ _ _ | refine Ext.trans ?_ (by assumption)))).mono ?_); rintro e w1 ⟨rfl, hb⟩; have hc := hb.cell; have hf := hb.frozen; have hz : w.heap.size + 1 < w1.heap.size := by have := hb.size; simp at this; omega) | (have _q := hb; go_at_call 50; (with_reducible refine (within_one_same 50 (.inl rfl) 1 4 _ _ _ (by simp)).mono ?_); rintro e w2 ⟨rfl, rfl⟩))
    go_ret
    refine ⟨ret_int ?_, (by repeat (first | exact Ext.refl _ | assumption | refine Ext.alloc ?_ _ | refine Ext.drewN ?_ _ | refine ext_grow ?_ _ _ | refine Ext.trans ?_ (by assumption)))⟩; unfold readyE; rw [if_pos H1.out]; exact (if_neg (fun h => by have := h.2.2.2; omega)).symm
  by_cases h6 : 0 ≤ slack ∧ slack ≤ 2
  case neg =>
    have q2 : decide (0 ≤ slack ∧ slack ≤ 2) = false := decide_eq_false h6
    have H6 := Lib.hid h6
    clear h6
    go_enter Try.func49, Try.ntmps49
    go_wp2_with (first | (go_at_call 89; (with_reducible refine (K.out _ (by repeat (first | exact Ext.refl _ | assumption | refine Ext.alloc ?_ _ | refine Ext.drewN ?_ _ | refine ext_grow ?_ _ _ | refine Ext.trans ?_ (by assumption)))).mono ?_); rintro e w1 ⟨rfl, hb⟩; have hc := hb.cell; have hf := hb.frozen; have hz : w.heap.size + 1 < w1.heap.size := by have := hb.size; simp at this; omega) | (have _q := hb; go_at_call 50; (with_reducible refine (within_one_same 50 (.inl rfl) 1 4 _ _ _ (by simp)).mono ?_); rintro e w2 ⟨rfl, rfl⟩) | (have _q := hb; go_at_call 50; (with_reducible refine (within_one_same 50 (.inl rfl) 0 2 _ _ _ (by simp)).mono ?_); rintro e w2 ⟨rfl, rfl⟩))
    go_ret
    refine ⟨ret_int ?_, (by repeat (first | exact Ext.refl _ | assumption | refine Ext.alloc ?_ _ | refine Ext.drewN ?_ _ | refine ext_grow ?_ _ _ | refine Ext.trans ?_ (by assumption)))⟩; unfold readyE; rw [if_pos H1.out]; rw [if_pos ⟨H2.out, h3, h4, h5⟩, if_neg H6.out]
  have q2 : decide (0 ≤ slack ∧ slack ≤ 2) = true := decide_eq_true h6
  have H6 := Lib.hid h6
  clear h6
  go_enter Try.func49, Try.ntmps49
  go_wp2_with (first | (go_at_call 89; (with_reducible refine (K.out _ (by repeat (first | exact Ext.refl _ | assumption | refine Ext.alloc ?_ _ | refine Ext.drewN ?_ _ | refine ext_grow ?_ _ _ | refine Ext.trans ?_ (by assumption)))).mono ?_); rintro e w1 ⟨rfl, hb⟩; have hc := hb.cell; have hf := hb.frozen; have hz : w.heap.size + 1 < w1.heap.size := by have := hb.size; simp at this; omega) | (have _q := hb; go_at_call 50; (with_reducible refine (within_one_same 50 (.inl rfl) 1 4 _ _ _ (by simp)).mono ?_); rintro e w2 ⟨rfl, rfl⟩) | (have _q := hb; go_at_call 50; (with_reducible refine (within_one_same 50 (.inl rfl) 0 2 _ _ _ (by simp)).mono ?_); rintro e w2 ⟨rfl, rfl⟩))
  go_ret
  refine ⟨ret_int ?_, (by repeat (first | exact Ext.refl _ | assumption | refine Ext.alloc ?_ _ | refine Ext.drewN ?_ _ | refine ext_grow ?_ _ _ | refine Ext.trans ?_ (by assumption)))⟩; unfold readyE; rw [if_pos H1.out]; rw [if_pos ⟨H2.out, h3, h4, h5⟩, if_pos H6.out]
end Go.Proofs.Ytipkjdfnoonpcaa
