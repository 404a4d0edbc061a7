/- An image in new memory; equal images: the reference's. -/
import Derived.Test.YtlnofbdhamingaaDoorGDraw
import Derived.Test.YtlnofbdhamingaaDoorTail
set_option linter.unusedVariables false
set_option linter.unusedSimpArgs false
namespace Go.Proofs.YtlnofbdhamingaaDoor
open Go.RowKit Go.Sort

set_option maxRecDepth 100000 in
set_option maxHeartbeats 4000000 in
theorem r_Twin (m : Img) (v : Value) (w : World) (hv : IntsAt w v m.pix) (hl : m.pix.length ≤ 17592186044000) :
    Calls Tryd.prog 27 #[imgVal m v] w fun e w' => ∃ v', e = .returned (imgVal m v') ∧ w'.ownsRow w.heap.size 3 1 v' m.pix.length (ints m.pix) ∧ Ext w w' := by
  obtain ⟨i3, ii, iz0, iz1, iz2⟩ := info_parts3 info_int
  have HV := Lib.hid hv
  obtain ⟨-, ao, cap, rfl, -⟩ := id hv
  obtain ⟨mw, mh, pix⟩ := m
  unfold imgVal
  dsimp only at *
  clear hv
  go_enter Tryd.func27, Tryd.ntmps27
  go_wp2_with (at_builtin; refine wpList_append_sl rfl _ _ 42 rfl (w.heap.size + 1 + 1) 3 i3 (.int .i64 0) 1 8 Tryd.underlying42 ii iz0 iz1 iz2 rfl (by omega) (.slice none 0 0) 0 [] rfl (World.ownsRow_nil _ _ _ _) _ pix.length (ints pix) rfl (HV.out.ext (((Ext.refl w).alloc _).alloc _)) (ints_oneCell' pix) (by unfold maxLen; omega) (by omega) (by rw [size_one, size_one]; exact Nat.le_refl _) ?_; intro v1 w1 ho1 hg1; rw [Nat.zero_add, List.nil_append] at ho1; have h1 := ext_of_grownNone hg1; have O1 := Lib.hid ho1; obtain ⟨-, uo, uc, rfl, -⟩ := SlAt.of_owns ho1; have A1 := Lib.hid (show At w1 [(w.heap.size, Obj.cells #[.int .i64 mw, .int .i64 mh, .slice ao pix.length cap] 44), (w.heap.size + 1, Obj.cells #[.int .i64 0, .int .i64 0, .slice none 0 0] 44)] from At.ext h1 ⟨two_first _ _ _, two_second _ _ _, trivial⟩); obtain ⟨⟨x0, x1, x2⟩, xf0, xf1, xf2⟩ := run_3 (At.at A1.out 0 rfl); obtain ⟨⟨y0, y1, y2⟩, yf0, yf1, yf2⟩ := run_3 (At.at A1.out 1 rfl); have xz := At.lt A1.out 0 rfl; have yz := At.lt A1.out 1 rfl; clear ho1 hg1)
  have s1 := st_one (At.at A1.out 0 rfl) 2 (.slice uo pix.length uc)
  have b1 := (s1.2.1 (w.heap.size + 1) (by omega)).trans (At.at A1.out 1 rfl)
  have st := store_3 (v0 := .int .i64 mw) (v1 := .int .i64 mh) (v2 := .slice uo pix.length uc) b1
  refine bodyPost_ret (results_row1 rfl _ _ _ _ _ (0, 0) _ rfl st.1 Tryd.underlying44 rfl (by kernel_rfl)) rfl ?_
  exact ⟨_, rfl, owns_base (own_set (own_set (own_set (own_set O1.out (by omega)) (by omega)) (by omega)) (by omega)) (by omega), st.2.2 w (by omega) (s1.2.2 w (Nat.le_refl _) ((((Ext.refl w).alloc _).alloc _).trans h1))⟩
set_option maxRecDepth 100000 in
set_option maxHeartbeats 4000000 in
theorem r_SameInts_eq (v1 v2 : Value) (l : List Int) (w : World) (h1 : IntsAt w v1 l) (h2 : IntsAt w v2 l) :
    Calls Tryd.prog 75 #[v1, v2] w fun e w' => e = .returned (.bool true) ∧ Ext w w' := by
  have H1 := Lib.hid h1
  have hm : l.length ≤ 9223372036854775807 := by
    obtain ⟨-, ao, cap, he, a1, a2, -⟩ := h1
    have e : maxLen = 9223372036854775807 := rfl
    omega
  obtain ⟨ao, ac, rfl, -, ha⟩ := h1.form
  obtain ⟨bo, bc, rfl, -, hb⟩ := h2.form
  have HA := Lib.hid ha
  have HB := Lib.hid hb
  obtain ⟨n, hn⟩ : ∃ n, l.length = n := ⟨_, rfl⟩
  rw [hn] at HA HB hm ⊢
  clear h1 h2 ha hb hn H1
  go_enter Tryd.func75, Tryd.ntmps75
  go_wp2
  go_loopw [5] (fun ii wi => ∃ i : Nat, i ≤ n ∧ ii = .int .i64 (i : Int) ∧ Ext w wi) (fun ii _ => n - (intOf ii).toNat)
  case atStart => exact ⟨0, Nat.zero_le _, rfl, Ext.refl _⟩
  case round =>
    obtain ⟨i, hi, rfl, hE⟩ := hrel
    by_cases h : i < n
    · obtain ⟨b, off, rfl, c0'⟩ := HA.out i h
      obtain ⟨b2, off2, rfl, c1'⟩ := HB.out i h
      have c0 := hE.get c0'
      have c1 := hE.get c1'
      have p1 : decide ((i : Int) < (n : Int)) = true := decide_eq_true (by omega)
      have p2 : (i : Int) < (n : Int) := by omega
      obtain ⟨x, hx⟩ : ∃ x, l.getD i 0 = x := ⟨_, rfl⟩
      rw [hx] at c0 c1
      have q1 : (x != x) = false := bne_self_eq_false' _
      clear hx c0' c1'
      go_wp2
      go_quiet (fail)
      go_wp2
      exact ⟨⟨i + 1, by omega, by go_num, hE.drewN _⟩, by simp [intOf]; omega⟩
    · have ei : i = n := by omega
      have p1 : decide ((i : Int) < (n : Int)) = false := decide_eq_false (by omega)
      clear ei
      go_wp2
      go_ret
      exact ⟨rfl, hE⟩
set_option maxRecDepth 100000 in
set_option maxHeartbeats 4000000 in
theorem r_Same_eq (m : Img) (v1 v2 : Value) (w : World) (h1 : IntsAt w v1 m.pix) (h2 : IntsAt w v2 m.pix) :
    Calls Tryd.prog 33 #[imgVal m v1, imgVal m v2] w fun e w' => e = .returned (.bool true) ∧ Ext w w' := by
  have K := Lib.hid (fun w' (h : Ext w w') => r_SameInts_eq v1 v2 m.pix w' (IntsAt.ext h1 h) (IntsAt.ext h2 h))
  obtain ⟨-, ao, ac, rfl, -⟩ := id h1
  obtain ⟨-, bo, bc, rfl, -⟩ := id h2
  obtain ⟨mw, mh, pix⟩ := m
  unfold imgVal
  dsimp only at *
  clear h1 h2
  go_enter Tryd.func33, Tryd.ntmps33
  go_wp2_with (go_at_call 75; (with_reducible refine (K.out _ (((Ext.refl w).alloc _).alloc _)).mono ?_); rintro E w1 ⟨rfl, h1⟩)
  go_ret
  exact ⟨rfl, (((Ext.refl w).alloc _).alloc _).trans h1⟩
end Go.Proofs.YtlnofbdhamingaaDoor
