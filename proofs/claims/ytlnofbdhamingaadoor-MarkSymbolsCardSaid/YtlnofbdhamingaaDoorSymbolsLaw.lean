/- 'MarkSymbols' returns true. -/
import Derived.Test.YtlnofbdhamingaaDoorEncode2
import Derived.Test.YtlnofbdhamingaaDoorSameBytes
set_option linter.unusedVariables false
set_option linter.unusedSimpArgs false
namespace Go.Proofs.YtlnofbdhamingaaDoor
open Go.RowKit Go.Sort

theorem BytesAt.of_owns {w : World} {base : Nat} {e : TypeId} {v : Value} {l : List Nat} (h : w.ownsRow base e 1 v l.length (bytesL l)) : BytesAt w v l := SlAt.of_owns h
set_option maxRecDepth 100000 in
set_option maxHeartbeats 4000000 in
theorem symbols_law_true (a b : Nat) (v : Value) (l : List Nat) (w : World) (hT : Tabs w) (hv : BytesAt w v l) (hl : l.length ≤ 140737488351232) :
    Calls Tryd.prog 3 #[.int .u8 (a : Int), .int .u8 (b : Int), v] w fun e w' => e = .returned (.bool true) ∧ Ext w w' := by
  obtain ⟨i0, hi, hz0, hz1, hz2⟩ := info_parts3 info_byte
  have k1 := Lib.hid (fun w' (h : Ext w w') => c_Mul a b w' (hT.ext h))
  have k2 := Lib.hid (fun w' => r_Mul a b w')
  have k3 := Lib.hid (fun w' (h : Ext w w') => c_Inverse a w' (hT.ext h))
  have k4 := Lib.hid (fun w' => r_Inverse a w')
  have k5 := Lib.hid (fun v' w' (h : Ext w w') (hv' : BytesAt w' v' l) => c_Encode v' l w' (hT.ext h) hv' (by unfold maxLen; omega))
  have k6 := Lib.hid (fun w' (h : Ext w w') => r_Encode v l w' (hv.ext h) (by unfold maxLen; omega))
  obtain ⟨m, hm⟩ : ∃ m, mulR a b = m := ⟨_, rfl⟩
  rw [hm] at k1 k2
  obtain ⟨i, hiv⟩ : ∃ i, invR a = i := ⟨_, rfl⟩
  rw [hiv] at k3 k4
  unfold OwnWord at k5 k6
  obtain ⟨er, her⟩ : ∃ er, encodeR l = er := ⟨_, rfl⟩
  rw [her] at k5 k6
  clear hm hiv her
  obtain ⟨m1, m2⟩ := m
  obtain ⟨i1, i2⟩ := i
  obtain ⟨e1, e2⟩ := er
  obtain ⟨q, hq⟩ : ∃ q, e1.getD [] = q := ⟨_, rfl⟩
  simp only [hq] at k5 k6
  clear hq
  have HV := Lib.hid hv
  obtain ⟨ao, cap, rfl, -, -⟩ := hv.form
  clear hv hT
  go_enter Tryd.func3, Tryd.ntmps3
  go_wp2_with (first
    | (have _q := x8; go_at_call 24; (with_reducible refine (r_SameBytes_eq _ _ l _ b8.out (HV.out.ext x8.out)).mono ?_); rintro E w9 ⟨rfl, h9⟩)
    | (go_at_call 24; (with_reducible refine (r_SameBytes_eq _ _ q _ c7.out d7.out).mono ?_); rintro E w8 ⟨rfl, h8⟩; have x8 := Lib.hid (x7.out.trans h8); have b8 := Lib.hid (b7.out.ext h8))
    | (go_at_call 18; (with_reducible refine (k1.out _ (Ext.refl _)).mono ?_); rintro E w1 ⟨rfl, h1⟩)
    | (go_at_call 19; (with_reducible refine (k2.out _).mono ?_); rintro E w2 ⟨rfl, h2⟩; have x2 := Lib.hid (h1.trans h2))
    | (go_at_call 20; (with_reducible refine (k3.out _ x2.out).mono ?_); rintro E w3 ⟨rfl, h3⟩)
    | (go_at_call 21; (with_reducible refine (k4.out _).mono ?_); rintro E w4 ⟨rfl, h4⟩; have x4 := Lib.hid ((x2.out.trans h3).trans h4))
    | (at_builtin; refine wpList_append_sl rfl _ _ 22 rfl w4.heap.size 5 i0 (.int .u8 0) 1 1 Tryd.underlying22 hi hz0 hz1 hz2 rfl (by omega) (.slice (some ⟨w4.heap.size, 0, none⟩) 0 0) 0 [] rfl (owns_lit w4 [] 5 0 1 _ (Nat.le_refl _) (by unfold maxLen; omega) rfl) _ l.length (bytesL l) rfl (HV.out.ext (x4.out.alloc _)) (bytes_oneCell' l) (by unfold maxLen; omega) (by omega) (by simp) ?_; intro v5 w5 ho5 hg5; have x5 := Lib.hid ((x4.out.alloc _).grown hg5 (fun k hk => (by simp [Value.ownBlock] at hk; have := x4.out.size; omega))); rw [Nat.zero_add, List.nil_append] at ho5; have b5 := Lib.hid (BytesAt.of_owns ho5); clear ho5 hg5)
    | (go_at_call 22; (with_reducible refine (k5.out _ _ x5.out b5.out).mono ?_); rintro E w6 ⟨v6, rfl, o6, h6⟩; have x6 := Lib.hid (x5.out.trans h6); have c6 := Lib.hid (BytesAt.of_owns o6); have b6 := Lib.hid (b5.out.ext h6); clear o6)
    | (go_at_call 23; (with_reducible refine (k6.out _ x6.out).mono ?_); rintro E w7 ⟨v7, rfl, o7, h7⟩; have x7 := Lib.hid (x6.out.trans h7); have d7 := Lib.hid (BytesAt.of_owns o7); have b7 := Lib.hid (b6.out.ext h7); have c7 := Lib.hid (c6.out.ext h7); clear o7))
  go_ret
  exact ⟨rfl, x8.out.trans h9⟩
end Go.Proofs.YtlnofbdhamingaaDoor
