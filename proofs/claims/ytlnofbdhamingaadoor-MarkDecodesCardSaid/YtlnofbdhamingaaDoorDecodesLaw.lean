/- 'MarkDecodes' returns true. -/
import Derived.Test.YtlnofbdhamingaaDoorDecodeR
import Derived.Test.YtlnofbdhamingaaDoorGLine
set_option linter.unusedVariables false
set_option linter.unusedSimpArgs false
namespace Go.Proofs.YtlnofbdhamingaaDoor
open Go.RowKit Go.Sort

set_option maxRecDepth 100000 in
set_option maxHeartbeats 8000000 in
theorem decodes_walk (v : Value) (wd : List Nat) (ve : Value) (er : List Bool) (k : Int) (w : World) (hT : Tabs w) (hv : BytesAt w v wd) (nv : wd.length ≤ 140737488351232) (he : BoolsAt w ve er) (ne : er.length ≤ maxLen) :
    Calls Tryd.prog 4 #[v, ve, .int .i64 k] w fun e w' => e = .returned (.bool true) ∧ Ext w w' := by
  obtain ⟨i0, hi, hz0, hz1, hz2⟩ := info_parts3 info_byte
  have K1 := Lib.hid (fun w' v1 (h : Ext w w') (h1 : BytesAt w' v1 wd) => c_Decode v1 ve wd er k w' (hT.ext h) h1 (he.ext h) (by unfold maxLen; omega) ne)
  have K2 := Lib.hid (fun w' (h : Ext w w') => r_Decode v ve wd er k w' (hv.ext h) (he.ext h) (by unfold maxLen; omega))
  obtain ⟨⟨⟨M, n⟩, e⟩, hr⟩ : ∃ r, decA wd er k = r := ⟨_, rfl⟩
  rw [hr] at K1 K2
  unfold DecAns at K1
  unfold DecAnsR at K2
  dsimp only at K1 K2
  have HV := Lib.hid hv
  obtain ⟨ao, cap, rfl, -, -⟩ := hv.form
  obtain ⟨bo, bc, rfl, -⟩ := bools_cells he
  have q1 : ((n : Int) == (n : Int)) = true := beq_self_eq_true _
  have q2 : (e == e) = true := beq_self_eq_true _
  have hnv := nv
  clear hv hT he ne hr
  go_enter Tryd.func4, Tryd.ntmps4
  go_wp2_with (first
    | (have _q := x4; go_at_call 24; (with_reducible refine (r_SameBytes_eq _ _ wd _ (b1.out.ext (h2.trans (h3.trans h4))) (HV.out.ext x4.out)).mono ?_); rintro E w5 ⟨rfl, h5⟩)
    | (have _q := x3; go_at_call 24; (with_reducible refine (r_SameBytes_eq _ _ M _ (b2.ext h3) b3).mono ?_); rintro E w4 ⟨rfl, h4⟩; have x4 := Lib.hid (x3.out.trans h4))
    | (at_builtin; refine wpList_append_sl rfl _ _ 22 rfl w.heap.size 5 i0 (.int .u8 0) 1 1 Tryd.underlying22 hi hz0 hz1 hz2 rfl (by omega) (.slice (some ⟨w.heap.size, 0, none⟩) 0 0) 0 [] rfl (owns_lit w [] 5 0 1 _ (Nat.le_refl _) (by unfold maxLen; omega) rfl) _ wd.length (bytesL wd) rfl (HV.out.ext ((Ext.refl w).alloc _)) (bytes_oneCell' wd) (by unfold maxLen; omega) (by omega) (by simp) ?_; intro v1 w1 ho1 hg1; have x1 := Lib.hid (((Ext.refl w).alloc (.cells #[] 5)).grown hg1 (fun k hk => (by simp [Value.ownBlock] at hk; omega))); rw [Nat.zero_add, List.nil_append] at ho1; have b1 := Lib.hid (BytesAt.of_owns ho1); obtain ⟨-, s1, t1, rfl, -⟩ := id b1.out; clear ho1 hg1)
    | (go_at_call 25; (with_reducible refine (K1.out _ _ x1.out b1.out).mono ?_); rintro E w2 ⟨v2, rfl, b2, -, h2⟩; have x2 := Lib.hid (x1.out.trans h2))
    | (go_at_call 26; (with_reducible refine (K2.out _ x2.out).mono ?_); rintro E w3 ⟨v3, rfl, b3, h3⟩; have x3 := Lib.hid (x2.out.trans h3)))
  go_ret
  exact ⟨rfl, x4.out.trans h5⟩
end Go.Proofs.YtlnofbdhamingaaDoor
