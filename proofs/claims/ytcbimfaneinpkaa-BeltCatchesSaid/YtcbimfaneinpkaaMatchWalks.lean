/- The walks of the small functions below Match: cloning, increasing counts, agreeing gaps. -/
import Derived.Test.YtcbimfaneinpkaaWindowWalks
import Derived.Test.YtcbimfaneinpkaaAppend
import Derived.Test.YtcbimfaneinpkaaMatchSpec
import Derived.WalkSpells
namespace Go.Proofs.Ytcbimfaneinpkaa
open Go.RowKit Go.Sort

theorem info3 : (Try.prog.info? 3).map (fun i => (i.zero, i.size, i.bytes)) = some (some (.int .i64 0), 1, 8) := by kernel_rfl

/-- A slice of ints of the call's own. -/
def OwnInts (l : List Int) (w : World) (e : Ending) (w' : World) : Prop := ∃ v', e = .returned v' ∧ w'.ownsRow w.heap.size 3 1 v' l.length (ints l) ∧ Ext w w'

set_option maxHeartbeats 1000000 in
theorem w59 (l : List Int) (v : Value) (w : World) (hv : IntsAt w v l) (hl : l.length ≤ 1000000) :
    Calls Try.prog 59 #[v] w (OwnInts l w) := by
  obtain ⟨i0, hi, hz0, hz1, hz2⟩ := info_parts info3
  have hv' := hv
  obtain ⟨h1, ao, cap, rfl, h3, h4, h5, h6⟩ := hv'
  cases ao with
  | none =>
    have h0 : cap = 0 := h5 rfl
    subst h0
    have hn : l = [] := List.eq_nil_of_length_eq_zero (by omega)
    subst hn
    have hnil := @Lib.run_eql_slice_nil Try.prog
    go_enter Try.func59, Try.ntmps59
    go_wp2
    go_ret
    exact ⟨_, rfl, ⟨rfl, .inl ⟨rfl, rfl⟩⟩, Ext.refl _⟩
  | some a =>
    have hnil := @Lib.run_eql_slice_nil Try.prog
    go_enter Try.func59, Try.ntmps59
    go_wp2_with (first | (at_builtin; refine wpList_append_sl rfl _ _ 37 rfl w.heap.size 3 i0 (.int .i64 0) 1 8 Try.underlying37 hi hz0 hz1 hz2 rfl (by omega) (.slice (some ⟨w.heap.size, 0, none⟩) 0 0) 0 [] rfl (owns_lit w [] 3 0 1 _ (Nat.le_refl _) (by unfold maxLen; omega) rfl) _ l.length (ints l) rfl (hv.ext ((Ext.refl _).alloc _)) (ints_oneCell' _) (by unfold maxLen; omega) (by omega) (by simp) ?_; intro v' w' ho hg))
    go_ret
    refine ⟨_, rfl, by simpa using ho, ((Ext.refl _).alloc _).grown hg (fun k hk => ?_)⟩
    simp [Value.ownBlock] at hk
    omega

set_option maxHeartbeats 1000000 in
theorem w57 (l : List Int) (v : Value) (w : World) (hv : IntsAt w v l) (hl : l.length ≤ 1000000) :
    Calls Try.prog 57 #[v] w fun e w' => e = .returned (.bool (decide (Incr l))) ∧ Ext w w' := by
  rcases hv.cases with ⟨rfl, ao, cap, rfl, _⟩ | ⟨h0, b, off, cap, rfl, h1, h2, h3'⟩
  · go_enter Try.func57, Try.ntmps57
    go_wp2
    go_loop [7] (fun i => i = .int .i64 0) (fun _ => 0)
    case atStart => rfl
    case round =>
      subst hrel
      go_wp2
      go_ret
      refine ⟨ret_bool (dec_of ?_), Ext.refl _⟩
      simp [Incr]
  · have h3 := Lib.hid h3'
    clear h3'
    go_enter Try.func57, Try.ntmps57
    go_wp2
    go_loop [7] (fun i => ∃ k : Nat, k ≤ l.length ∧ i = .int .i64 k ∧ Hid (∀ j, j < k → (0 ≤ l.getD j 0 ∧ l.getD j 0 ≤ 1099511627776) ∧ (0 < j → l.getD (j - 1) 0 < l.getD j 0))) (fun i => l.length - (intOf i).toNat)
    case atStart => exact ⟨0, Nat.zero_le _, rfl, fun j hj => by omega⟩
    case round =>
      obtain ⟨k, hk, rfl, hd⟩ := hrel
      by_cases hlt : k < l.length
      · obtain ⟨x, hck, HX⟩ := hid_cell (h3.out k hlt)
        rcases Nat.lt_or_ge 0 k with hk0 | hk0
        · obtain ⟨y, hck1, HY⟩ := hid_cell (h3.out (k - 1) (by omega))
          go_wp2
          all_goals first
            | (go_ret
               refine ⟨ret_bool (dec_false (fun h => ?_)), Ext.refl _⟩
               have h4 := h k hlt
               rw [HX.out, HY.out] at h4
               omega)
            | (go_round
               case rel =>
                 refine ⟨k + 1, by omega, by go_num, fun j hj => ?_⟩
                 rcases Nat.lt_or_ge j k with h5 | h5
                 · exact hd.out j h5
                 · obtain rfl : j = k := by omega
                   rw [HX.out, HY.out]
                   omega
               case measure => simp [intOf]; omega)
        · go_wp2
          all_goals first
            | (go_ret
               refine ⟨ret_bool (dec_false (fun h => ?_)), Ext.refl _⟩
               have h4 := h k hlt
               rw [HX.out] at h4
               omega)
            | (go_round
               case rel =>
                 refine ⟨k + 1, by omega, by go_num, fun j hj => ?_⟩
                 rcases Nat.lt_or_ge j k with h5 | h5
                 · exact hd.out j h5
                 · obtain rfl : j = k := by omega
                   rw [HX.out]
                   omega
               case measure => simp [intOf]; omega)
      · go_wp2
        go_ret
        refine ⟨ret_bool (dec_true (fun j hj => hd.out j (by omega))), Ext.refl _⟩

set_option maxHeartbeats 1000000 in
theorem w61 (l : List Int) (v : Value) (w : World) (hv : IntsAt w v l) (hl : l.length ≤ 1000000) :
    Calls Try.prog 61 #[v] w fun e w' => e = .returned (.bool (decide (Incr l))) ∧ Ext w w' := by
  rcases hv.cases with ⟨rfl, ao, cap, rfl, _⟩ | ⟨h0, b, off, cap, rfl, h1, h2, h3'⟩
  · go_enter Try.func61, Try.ntmps61
    go_wp2
    go_loop [3] (fun i => i = .int .i64 0) (fun _ => 0)
    case atStart => rfl
    case round =>
      subst hrel
      go_wp2
      go_ret
      refine ⟨ret_bool (dec_of ?_), Ext.refl _⟩
      simp [Incr]
  · have h3 := Lib.hid h3'
    clear h3'
    go_enter Try.func61, Try.ntmps61
    go_wp2
    go_loopw [3] (fun i wr => Ext w wr ∧ ∃ k : Nat, k ≤ l.length ∧ i = .int .i64 k ∧ Hid (∀ j, j < k → (0 ≤ l.getD j 0 ∧ l.getD j 0 ≤ 1099511627776) ∧ (0 < j → l.getD (j - 1) 0 < l.getD j 0))) (fun i _ => l.length - (intOf i).toNat)
    case atStart => exact ⟨Ext.refl _, 0, Nat.zero_le _, rfl, fun j hj => by omega⟩
    case round =>
      obtain ⟨hE, k, hk, rfl, hd⟩ := hrel
      by_cases hlt : k < l.length
      · obtain ⟨x, hck, HX⟩ := hid_cell (hE.get (h3.out k hlt))
        have hbk := World.block_lt_of_cell? _ _ hck
        by_cases hx : 0 ≤ x ∧ x ≤ 1099511627776
        · rcases Nat.lt_or_ge 0 k with hk0 | hk0
          · obtain ⟨y, hck1, HY⟩ := hid_cell (hE.get (h3.out (k - 1) (by omega)))
            go_wp2_with fail
            refine wp_region_quiet_below (by kernel_rfl) (by kernel_rfl) ?_
            repeat (go_big_quiet_step ((go_at_call 56; exact Calls.ext_of (w56 _ _ _ _))))
            refine wpQuiet_nil ?_
            intro _ hw'
            obtain ⟨⟨dq, osq⟩, hw''⟩ := hw'
            subst hw''
            have hE2 : Ext w (grow (redrawn wr dq) osq) := hE.trans (Ext.grow _ _ _)
            go_wp2
            all_goals first
              | (go_ret
                 refine ⟨ret_bool (dec_false (fun h => ?_)), hE2⟩
                 have h4 := h k hlt
                 rw [HX.out, HY.out] at h4
                 omega)
              | (go_roundw
                 case rel =>
                   refine ⟨hE2, k + 1, by omega, by go_num, fun j hj => ?_⟩
                   rcases Nat.lt_or_ge j k with h5 | h5
                   · exact hd.out j h5
                   · obtain rfl : j = k := by omega
                     rw [HX.out, HY.out]
                     omega
                 case measure => simp [intOf]; omega)
          · have hkd : decide (0 < k) = false := by simp; omega
            go_wp2_with fail
            refine wp_region_quiet_below (by kernel_rfl) (by kernel_rfl) ?_
            repeat (go_big_quiet_step ((go_at_call 56; exact Calls.ext_of (w56 _ _ _ _))))
            refine wpQuiet_nil ?_
            intro _ hw'
            obtain ⟨⟨dq, osq⟩, hw''⟩ := hw'
            subst hw''
            have hE2 : Ext w (grow (redrawn wr dq) osq) := hE.trans (Ext.grow _ _ _)
            go_wp2
            all_goals first
              | (go_ret
                 refine ⟨ret_bool (dec_false (fun h => ?_)), hE2⟩
                 have h4 := h k hlt
                 rw [HX.out] at h4
                 omega)
              | (go_roundw
                 case rel =>
                   refine ⟨hE2, k + 1, by omega, by go_num, fun j hj => ?_⟩
                   rcases Nat.lt_or_ge j k with h5 | h5
                   · exact hd.out j h5
                   · obtain rfl : j = k := by omega
                     rw [HX.out]
                     omega
                 case measure => simp [intOf]; omega)
        · go_wp2_with fail
          refine wp_region_quiet_below (by kernel_rfl) (by kernel_rfl) ?_
          repeat (go_big_quiet_step ((go_at_call 56; exact Calls.ext_of (w56 _ _ _ _))))
          refine wpQuiet_nil ?_
          intro _ hw'
          obtain ⟨⟨dq, osq⟩, hw''⟩ := hw'
          subst hw''
          have hE2 : Ext w (grow (redrawn wr dq) osq) := hE.trans (Ext.grow _ _ _)
          go_wp2
          all_goals first
            | (go_ret
               refine ⟨ret_bool (dec_false (fun h => ?_)), hE2⟩
               have h4 := h k hlt
               rw [HX.out] at h4
               omega)
            | (go_roundw
               case rel =>
                 refine ⟨hE2, k + 1, by omega, by go_num, fun j hj => ?_⟩
                 rcases Nat.lt_or_ge j k with h5 | h5
                 · exact hd.out j h5
                 · obtain rfl : j = k := by omega
                   rw [HX.out]
                   omega
               case measure => simp [intOf]; omega)
      · go_wp2
        go_ret
        refine ⟨ret_bool (dec_true (fun j hj => hd.out j (by omega))), hE⟩
end Go.Proofs.Ytcbimfaneinpkaa
