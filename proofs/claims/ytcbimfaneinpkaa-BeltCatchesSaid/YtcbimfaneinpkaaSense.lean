/- The walk of the program's Sense. -/
import Derived.Test.YtcbimfaneinpkaaCheck
import Derived.Test.YtcbimfaneinpkaaTwin
import Derived.Test.YtcbimfaneinpkaaRegion
set_option linter.unusedVariables false
set_option linter.unusedSimpArgs false
namespace Go.Proofs.Ytcbimfaneinpkaa
open Go.RowKit Go.Sort

def noTrack : Track := ⟨⟨0, 0, 0, 0⟩, 0, 0, []⟩
/-- a part passes the sensor -/
def sense (t : Track) : Track × Int × Int :=
  if t.ok then
    if 0 < t.parts.length ∧ (t.parts.getD (t.parts.length - 1) seen0).at_ = t.count then (noTrack, 0, 91)
    else if t.parts.length = 32 ∨ t.next = 1099511627776 then (noTrack, 0, 9)
    else (⟨t.belt, t.count, t.next + 1, t.parts ++ [⟨t.next, t.count, 0, false⟩]⟩, t.next, 0)
  else (noTrack, 0, checkTrack t)
def OwnSense (r : Track × Int × Int) (w : World) (e : Ending) (w' : World) : Prop :=
  ∃ v', e = .returned (.tuple #[trackVal r.1 v', .int .i64 r.2.1, .int .i64 r.2.2]) ∧ w'.ownsRow w.heap.size 63 4 v' r.1.parts.length (seens r.1.parts) ∧ Ext w w'
/-- 'append(t.Parts[:n:n], Seen{..})' -/
def gs31 (t : Track) (ao : Option Addr) (cap N : Nat) : List (Value → World → Prop) :=
  [fun v _ => v = .pointer (some ⟨N, 6, none⟩), fun v _ => v = .slice ao t.parts.length cap, fun v _ => v = .int .i64 t.parts.length, fun v _ => v = .int .i64 t.parts.length,
    fun v w => (∃ a, v = .slice a t.parts.length t.parts.length) ∧ SeensAt w v t.parts, fun v _ => v = .int .i64 t.next, fun v _ => v = .pointer (some ⟨N, 4, none⟩), fun v _ => v = .int .i64 t.count,
    fun v _ => v = .agg #[.int .i64 t.next, .int .i64 t.count, .int .u8 0, .bool false], fun v w => SlAt w 4 v 1 [.int .i64 t.next, .int .i64 t.count, .int .u8 0, .bool false],
    fun v w => w.ownsRow (N + 2) 63 4 v (t.parts.length + 1) (seens (t.parts ++ [⟨t.next, t.count, 0, false⟩])), fun v _ => v = .pointer (some ⟨N, 6, none⟩)]
theorem gs31_stab (t : Track) (ao : Option Addr) (cap N : Nat) : ∀ g ∈ gs31 t ao cap N, ∀ v w w', g v w → Ext w w' → g v w' := by
  intro g hg v w w' h hb
  simp only [gs31, List.mem_cons, List.not_mem_nil, or_false] at hg
  rcases hg with rfl | rfl | rfl | rfl | rfl | rfl | rfl | rfl | rfl | rfl | rfl | rfl
  · exact h
  · exact h
  · exact h
  · exact h
  · exact ⟨h.1, SeensAt.ext h.2 hb⟩
  · exact h
  · exact h
  · exact h
  · exact h
  · exact SlAt.ext h hb
  · exact owns_ext h hb
  · exact h

theorem OwnSense.bare {c : Int} {w w' : World} (h : Ext w w') : OwnSense (noTrack, 0, c) w (.returned (.tuple #[.agg #[.int .i64 0, .int .i64 0, .int .i64 0, .int .i64 0, .int .i64 0, .int .i64 0, .slice none 0 0], .int .i64 0, .int .i64 c])) w' :=
  ⟨.slice none 0 0, rfl, ⟨rfl, .inl ⟨rfl, rfl⟩⟩, h⟩

set_option maxRecDepth 100000 in
set_option maxHeartbeats 4000000 in
theorem w31 (t : Track) (v : Value) (w : World) (hv : SeensAt w v t.parts) (hl : t.parts.length ≤ 50) :
    Calls Try.prog 31 #[trackVal t v] w (OwnSense (sense t) w) := by
  have HV := Lib.hid hv
  obtain ⟨q1, ao, cap, rfl, k1, k2, k3, -⟩ := hv
  have hb0 : ∀ A B, Ext w ((w.alloc A).alloc B) := fun A B => ((Ext.refl _).alloc A).alloc B
  by_cases hok : t.ok
  · have hct : checkTrack t = 0 := checkTrack_ok hok
    obtain ⟨s1, s2, s3, s4, s5⟩ := hok.2.1
    have hone : (0 < t.parts.length ∧ (t.parts.getD (t.parts.length - 1) seen0).at_ = t.count) ∨ ¬ (0 < t.parts.length ∧ (t.parts.getD (t.parts.length - 1) seen0).at_ = t.count) := Classical.em _
    rcases hone with hone | hone
    · rw [show sense t = (noTrack, 0, 91) from by unfold sense; rw [if_pos hok, if_pos hone]]
      obtain ⟨h0, h1⟩ := hone
      rcases HV.out.cases with ⟨g0, -⟩ | ⟨-, b, off, cap', hv3, -, -, x3⟩
      · rw [g0] at h0; simp at h0
      injection hv3 with hv4 hv5 hv6
      subst hv4
      clear hv5 hv6
      have y1 := (x3 (t.parts.length - 1) (by omega)).2.1
      rw [h1] at y1
      clear x3 h1
      have q2 : decide (0 < t.parts.length) = true := decide_eq_true h0
      have q3 : decide ((0 : Int) < (t.parts.length : Int)) = true := decide_eq_true (by omega)
      go_enter Try.func31, Try.ntmps31
      go_wp2_with ((go_at_call 35; refine (Ext.lift (w35 t _ _ (HV.out.ext (hb0 _ _))) (by first | assumption | exact Ext.refl _)).mono ?_; rintro e w' ⟨rfl, hb⟩; have hc := hb.cell; have hf := hb.frozen))
      have hE0 : Ext w w' := (hb0 _ _).trans hb
      have b1 : w'.heap[w.heap.size + 1]? = some (.cells #[.int .i64 0, .int .i64 0, .int .i64 0, .int .i64 0, .int .i64 0, .int .i64 0, .slice none 0 0] 47 (0, 0)) := (hb.block (w.heap.size + 1) (by simp)).trans (two_second w _ _)
      have B1 := Lib.hid b1
      clear b1
      have y2 := hE0.get y1
      have z5 := World.block_lt_of_cell? _ _ y2
      go_wp2_with fail
      go_quiet (fail)
      go_wp2
      refine bodyPost_ret (results_row3 rfl _ _ (w.heap.size + 1) 47 _ (0, 0) _ rfl (set_seven (by exact B1.out)) Try.underlying47 rfl info47) rfl ?_
      exact OwnSense.bare (ext_seven (hE0.drewN _) (by omega))
    · have hemp : t.parts.length = 0 ∨ (0 < t.parts.length ∧ (t.parts.getD (t.parts.length - 1) seen0).at_ ≠ t.count) := by
        rcases Nat.eq_zero_or_pos t.parts.length with h | h
        · exact .inl h
        · exact .inr ⟨h, fun h9 => hone ⟨h, h9⟩⟩
      rcases hemp with h0 | ⟨h0, h1⟩
      · have q2 : decide (0 < t.parts.length) = false := decide_eq_false (by omega)
        have q3 : decide ((0 : Int) < (t.parts.length : Int)) = false := decide_eq_false (by omega)
        have q4 : ((t.parts.length : Int) == 32) = false := by simp; omega
        have H0 := Lib.hid h0
        by_cases hn : t.next = 1099511627776
        · rw [show sense t = (noTrack, 0, 9) from by unfold sense; rw [if_pos hok, if_neg hone, if_pos (.inr hn)]]
          have q5 : (t.next == 1099511627776) = true := by simpa using hn
          have HN := Lib.hid hn
          clear hn h0
          go_enter Try.func31, Try.ntmps31
          go_wp2_with ((go_at_call 35; refine (Ext.lift (w35 t _ _ (HV.out.ext (hb0 _ _))) (by first | assumption | exact Ext.refl _)).mono ?_; rintro e w' ⟨rfl, hb⟩; have hc := hb.cell; have hf := hb.frozen))
          have hE0 : Ext w w' := (hb0 _ _).trans hb
          have b1 : w'.heap[w.heap.size + 1]? = some (.cells #[.int .i64 0, .int .i64 0, .int .i64 0, .int .i64 0, .int .i64 0, .int .i64 0, .slice none 0 0] 47 (0, 0)) := (hb.block (w.heap.size + 1) (by simp)).trans (two_second w _ _)
          have B1 := Lib.hid b1
          clear b1
          go_wp2_with fail
          go_quiet (fail)
          go_wp2
          refine bodyPost_ret (results_row3 rfl _ _ (w.heap.size + 1) 47 _ (0, 0) _ rfl (set_seven (by exact B1.out)) Try.underlying47 rfl info47) rfl ?_
          exact OwnSense.bare (ext_seven (hE0.drewN _) (by omega))
        · have hfull : ¬ (t.parts.length = 32 ∨ t.next = 1099511627776) := by omega
          have q5 : (t.next == 1099511627776) = false := by simpa using hn
          obtain ⟨r, hr⟩ : ∃ r, sense t = r := ⟨_, rfl⟩
          rw [hr]
          have HR : Hid (r = (⟨t.belt, t.count, t.next + 1, t.parts ++ [⟨t.next, t.count, 0, false⟩]⟩, t.next, 0)) := by rw [← hr]; unfold sense; rw [if_pos hok, if_neg hone, if_neg hfull]; rfl
          clear hn hfull hone hr h0
          go_enter Try.func31, Try.ntmps31
          go_wp2_with ((go_at_call 35; refine (Ext.lift (w35 t _ _ (HV.out.ext (hb0 _ _))) (by first | assumption | exact Ext.refl _)).mono ?_; rintro e w' ⟨rfl, hb⟩; have hc := hb.cell; have hf := hb.frozen))
          have hE0 : Ext w w' := (hb0 _ _).trans hb
          have b0 : w'.heap[w.heap.size]? = some (.cells #[.int .i64 t.belt.step, .int .i64 t.belt.slip, .int .i64 t.belt.gate, .int .i64 t.belt.length, .int .i64 t.count, .int .i64 t.next, .slice ao t.parts.length cap] 47 (0, 0)) := (hb.block w.heap.size (by rw [size_one, size_one]; omega)).trans (two_first w _ _)
          have B0 := Lib.hid b0
          clear b0
          have b1 : w'.heap[w.heap.size + 1]? = some (.cells #[.int .i64 0, .int .i64 0, .int .i64 0, .int .i64 0, .int .i64 0, .int .i64 0, .slice none 0 0] 47 (0, 0)) := (hb.block (w.heap.size + 1) (by simp)).trans (two_second w _ _)
          have B1 := Lib.hid b1
          clear b1
          skip
          go_wp2_with fail
          go_quiet (fail)
          have hEr : Ext w (w'.drewN nq) := hE0.drewN _
          have hszr : w.heap.size + 2 ≤ (w'.drewN nq).heap.size := by have := hb.size; rw [size_one, size_one] at this; exact this
          have B0r : Hid ((w'.drewN nq).heap[w.heap.size]? = some (.cells #[.int .i64 t.belt.step, .int .i64 t.belt.slip, .int .i64 t.belt.gate, .int .i64 t.belt.length, .int .i64 t.count, .int .i64 t.next, .slice ao t.parts.length cap] 47 (0, 0))) := B0.out
          have B1r : Hid ((w'.drewN nq).heap[w.heap.size + 1]? = some (.cells #[.int .i64 0, .int .i64 0, .int .i64 0, .int .i64 0, .int .i64 0, .int .i64 0, .slice none 0 0] 47 (0, 0))) := B1.out
          generalize w'.drewN nq = wr at hEr B0r B1r hszr ⊢
          have hVr := Lib.hid (HV.out.ext hEr)
          have c4 := cell_of_at B0r.out 4 rfl
          have c5 := cell_of_at B0r.out 5 rfl
          have c6 := cell_of_at B0r.out 6 rfl
          clear hc hf
          go_wp2_with fail
          obtain ⟨i0, hi, hz0, hz1, hz2⟩ := info_parts info63
          have hst := RG.stab_of (gs31_stab t ao cap w.heap.size)
          refine RG.wp_rg (gs31 t ao cap w.heap.size) (fun _ => []) (by kernel_rfl) (by kernel_rfl) (by kernel_rfl) ?_ ?_
          · simp only [gs31, List.length_cons, List.length_nil, List.take_succ_cons, List.take_zero, RG.Steps, and_true, Nat.reduceAdd]
            refine ⟨?_, ?_, ?_, ?_, ?_, ?_, ?_, ?_, ?_, ?_, ?_, ?_⟩
            · refine RG.st_run rfl (fun a wx hw hr => ⟨_, wx, ?_, Ext.refl _, rfl⟩) hst
              have e := RG.read_out (t := 1) hr (by kernel_rfl) (by kernel_rfl)
              have e' : a.tmps[1]?.getD undef = .pointer (some ⟨w.heap.size, 0, none⟩) := (Array.getD_eq_getD_getElem? ..).symm.trans e
              clear hr hst e
              simp [execOp, go_sem, e', Try.underlying47]
            · refine RG.st_run rfl (fun a wx hw hr => ⟨_, wx, ?_, Ext.refl _, rfl⟩) hst
              have ea0 := RG.read_in (t := 42) (j := 0) hr (by kernel_rfl) (by kernel_rfl)
              have ea : a.tmps[42]?.getD undef = .pointer (some ⟨w.heap.size, 6, none⟩) := (Array.getD_eq_getD_getElem? ..).symm.trans ea0
              have f0 := hw.get c6
              clear hr hst ea0
              simp [execOp, go_sem, ea, f0]
            · exact RG.st_move rfl rfl (by kernel_rfl) (fun _ _ => rfl) hst
            · exact RG.st_move rfl rfl (by kernel_rfl) (fun _ _ => rfl) hst
            · refine RG.st_run rfl (fun a wx hw hr => ⟨.slice ao t.parts.length t.parts.length, wx, ?_, Ext.refl _, ⟨_, rfl⟩, ?_⟩) hst
              · have ea0 := RG.read_in (t := 43) (j := 1) hr (by kernel_rfl) (by kernel_rfl)
                have ea : a.tmps[43]?.getD undef = .slice ao t.parts.length cap := (Array.getD_eq_getD_getElem? ..).symm.trans ea0
                have eb0 := RG.read_in (t := 44) (j := 2) hr (by kernel_rfl) (by kernel_rfl)
                have eb : a.tmps[44]?.getD undef = .int .i64 t.parts.length := (Array.getD_eq_getD_getElem? ..).symm.trans eb0
                have ec0 := RG.read_in (t := 45) (j := 3) hr (by kernel_rfl) (by kernel_rfl)
                have ec : a.tmps[45]?.getD undef = .int .i64 t.parts.length := (Array.getD_eq_getD_getElem? ..).symm.trans ec0
                clear hr hst ea0 eb0 ec0
                simp [execOp, go_sem, ea, eb, ec, Try.underlying45]
                intro h9
                omega
              · obtain ⟨m1, ao', cap2, hv9, m2, m3, m4, m5⟩ := hVr.out.ext hw
                injection hv9 with hv7 _ hv8
                subst hv7
                exact ⟨m1, _, _, rfl, Nat.le_refl _, by omega, fun h => by have := m4 h; omega, m5⟩
            · exact RG.st_move rfl rfl (by kernel_rfl) (fun _ _ => rfl) hst
            · refine RG.st_run rfl (fun a wx hw hr => ⟨_, wx, ?_, Ext.refl _, rfl⟩) hst
              have e := RG.read_out (t := 1) hr (by kernel_rfl) (by kernel_rfl)
              have e' : a.tmps[1]?.getD undef = .pointer (some ⟨w.heap.size, 0, none⟩) := (Array.getD_eq_getD_getElem? ..).symm.trans e
              clear hr hst e
              simp [execOp, go_sem, e', Try.underlying47]
            · refine RG.st_run rfl (fun a wx hw hr => ⟨_, wx, ?_, Ext.refl _, rfl⟩) hst
              have ea0 := RG.read_in (t := 48) (j := 6) hr (by kernel_rfl) (by kernel_rfl)
              have ea : a.tmps[48]?.getD undef = .pointer (some ⟨w.heap.size, 4, none⟩) := (Array.getD_eq_getD_getElem? ..).symm.trans ea0
              have f0 := hw.get c4
              clear hr hst ea0
              simp [execOp, go_sem, ea, f0]
            · refine RG.st_run rfl (fun a wx hw hr => ⟨_, wx, ?_, Ext.refl _, rfl⟩) hst
              have ea0 := RG.read_in (t := 47) (j := 5) hr (by kernel_rfl) (by kernel_rfl)
              have ea : a.tmps[47]?.getD undef = .int .i64 t.next := (Array.getD_eq_getD_getElem? ..).symm.trans ea0
              have eb0 := RG.read_in (t := 49) (j := 7) hr (by kernel_rfl) (by kernel_rfl)
              have eb : a.tmps[49]?.getD undef = .int .i64 t.count := (Array.getD_eq_getD_getElem? ..).symm.trans eb0
              clear hr hst ea0 eb0
              simp [execOp, go_sem, ea, eb, Try.underlying63]
            · refine RG.st_run rfl (fun a wx hw hr => ⟨.slice (some ⟨wx.heap.size, 0, none⟩) 1 1, wx.alloc (.cells #[.int .i64 t.next, .int .i64 t.count, .int .u8 0, .bool false] 63), ?_, (Ext.refl _).alloc _, SlAt.of_owns (owns_lit wx [.int .i64 t.next, .int .i64 t.count, .int .u8 0, .bool false] 63 1 4 0 (Nat.zero_le _) (by unfold maxLen; omega) rfl)⟩) hst
              have ea0 := RG.read_in (t := 50) (j := 8) hr (by kernel_rfl) (by kernel_rfl)
              have ea : a.tmps[50]?.getD undef = .agg #[.int .i64 t.next, .int .i64 t.count, .int .u8 0, .bool false] := (Array.getD_eq_getD_getElem? ..).symm.trans ea0
              clear hr hst ea0
              simp [execOp, go_sem, ea]
            · refine RG.st_wp rfl (fun a wx Q hw hr => ?_)
              obtain ⟨⟨a5, e1⟩, e2⟩ := RG.read_in (t := 46) (j := 4) hr (by kernel_rfl) (by kernel_rfl)
              have e3 := RG.read_in (t := 51) (j := 9) hr (by kernel_rfl) (by kernel_rfl)
              refine wp_append_full (.tmp 46) (.tmp 51) 45 rfl 63 i0 (.agg #[.int .i64 0, .int .i64 0, .int .u8 0, .bool false]) 4 24 Try.underlying45 hi hz0 hz1 hz2 rfl (by omega) _ t.parts.length (seens t.parts) rfl e2 ⟨a5, e1⟩ _ 1 [.int .i64 t.next, .int .i64 t.count, .int .u8 0, .bool false] rfl e3 (by simp [Value.oneCell']) (by unfold maxLen; omega) (by omega) ?_
              rintro v' wy hb' (⟨h9, -⟩ | ⟨-, ho⟩)
              · omega
              refine ⟨_, rfl, hw.trans hb', fun j v _ _ _ h => hst j v _ _ h hb', ?_⟩
              show wy.ownsRow _ 63 4 _ (t.parts.length + 1) (seens (t.parts ++ [⟨t.next, t.count, 0, false⟩]))
              rw [seens_append]
              exact owns_base ho (by have := hw.size; omega)
            · refine RG.st_run rfl (fun a wx hw hr => ⟨_, wx, ?_, Ext.refl _, rfl⟩) hst
              have e := RG.read_out (t := 1) hr (by kernel_rfl) (by kernel_rfl)
              have e' : a.tmps[1]?.getD undef = .pointer (some ⟨w.heap.size, 0, none⟩) := (Array.getD_eq_getD_getElem? ..).symm.trans e
              clear hr hst e
              simp [execOp, go_sem, e', Try.underlying47]
          · intro wq hwq
            simp only [gs31, List.length_cons, List.length_nil, List.take_succ_cons, List.take_zero, RG.Fin, RG.goneBy, Nat.reduceAdd, List.drop_succ_cons, List.drop_zero]
            intro v0 h0 v1 h1 v2 h2 v3 h3 v4 _ v5 h5 v6 h6 v7 h7 v8 h8 v9 _ v10 h10 v11 h11
            obtain rfl := h0 (by decide)
            obtain rfl := h1 (by decide)
            obtain rfl := h2 (by decide)
            obtain rfl := h3 (by decide)
            obtain rfl := h5 (by decide)
            obtain rfl := h6 (by decide)
            obtain rfl := h7 (by decide)
            obtain rfl := h8 (by decide)
            obtain rfl := h11 (by decide)
            have ho := h10 (by decide)
            clear h0 h1 h2 h3 h5 h6 h7 h8 h10 h11
            simp only [Act.put, List.setIfInBounds_toArray, List.set_cons_zero, List.set_cons_succ]
            have b0 := (hwq.block w.heap.size (by omega)).trans B0r.out
            have b1 := (hwq.block (w.heap.size + 1) (by omega)).trans B1r.out
            clear c4 c5 c6
            have hsl := SlAt.of_owns ho
            obtain ⟨-, sa, sc, hvv, -⟩ := hsl
            subst hvv
            have c0 := cell_of_at b0 0 rfl
            have r0 := cell_of_at b1 0 rfl
            have n0 := free_of_at b0 0
            have m0 := free_of_at b1 0
            have c1 := cell_of_at b0 1 rfl
            have r1 := cell_of_at b1 1 rfl
            have n1 := free_of_at b0 1
            have m1 := free_of_at b1 1
            have c2 := cell_of_at b0 2 rfl
            have r2 := cell_of_at b1 2 rfl
            have n2 := free_of_at b0 2
            have m2 := free_of_at b1 2
            have c3 := cell_of_at b0 3 rfl
            have r3 := cell_of_at b1 3 rfl
            have n3 := free_of_at b0 3
            have m3 := free_of_at b1 3
            have c4 := cell_of_at b0 4 rfl
            have r4 := cell_of_at b1 4 rfl
            have n4 := free_of_at b0 4
            have m4 := free_of_at b1 4
            have c5 := cell_of_at b0 5 rfl
            have r5 := cell_of_at b1 5 rfl
            have n5 := free_of_at b0 5
            have m5 := free_of_at b1 5
            have c6 := cell_of_at b0 6 rfl
            have r6 := cell_of_at b1 6 rfl
            have n6 := free_of_at b0 6
            have m6 := free_of_at b1 6
            have HO := Lib.hid ho
            have hEq := hEr.trans hwq
            have BQ := Lib.hid b1
            clear ho b0 b1 hst
            go_wp2
            refine bodyPost_ret (results_row3 rfl _ _ (w.heap.size + 1) 47 _ (0, 0) _ rfl (set_seven (by rw [Below.heap_setCell _ _ _ _ (show w.heap.size + 1 ≠ w.heap.size by omega), Below.heap_setCell _ _ _ _ (show w.heap.size + 1 ≠ w.heap.size by omega)]; exact BQ.out)) Try.underlying47 rfl info47) rfl ?_
            rw [HR.out]
            refine ⟨.slice sa (t.parts.length + 1) sc, rfl, ?_, ext_seven ((hEq.setCell (Nat.le_refl _) _).setCell (Nat.le_refl _) _) (by omega)⟩
            simp only [List.length_append, List.length_cons, List.length_nil, Nat.zero_add]
            exact owns_base (base := w.heap.size + 2) (own_seven (b := w.heap.size + 1) (own_set (bo := w.heap.size) (o := 5) (own_set (bo := w.heap.size) (o := 6) HO.out (by omega)) (by omega)) (by omega)) (by omega)

      · rcases HV.out.cases with ⟨g0, -⟩ | ⟨-, b, off, cap', hv3, -, -, x3⟩
        · rw [g0] at h0; simp at h0
        injection hv3 with hv4 hv5 hv6
        subst hv4
        clear hv5 hv6
        have y1 := (x3 (t.parts.length - 1) (by omega)).2.1
        have hx1 : ∃ n : Int, (t.parts.getD (t.parts.length - 1) seen0).at_ = n := ⟨_, rfl⟩
        obtain ⟨at1, hx1⟩ := hx1
        rw [hx1] at y1 h1
        have q9 : (at1 == t.count) = false := by simpa using h1
        clear x3 hx1 h1
        have q2 : decide (0 < t.parts.length) = true := decide_eq_true h0
        have q3 : decide ((0 : Int) < (t.parts.length : Int)) = true := decide_eq_true (by omega)
        by_cases h32 : t.parts.length = 32
        · rw [show sense t = (noTrack, 0, 9) from by unfold sense; rw [if_pos hok, if_neg hone, if_pos (.inl h32)]]
          have q4 : ((t.parts.length : Int) == 32) = true := by simp; omega
          have q8 : (t.parts.length - 1 : Nat) < t.parts.length := by omega
          have H32 := Lib.hid h32
          clear h32 hone
          go_enter Try.func31, Try.ntmps31
          go_wp2_with ((go_at_call 35; refine (Ext.lift (w35 t _ _ (HV.out.ext (hb0 _ _))) (by first | assumption | exact Ext.refl _)).mono ?_; rintro e w' ⟨rfl, hb⟩; have hc := hb.cell; have hf := hb.frozen))
          have hE0 : Ext w w' := (hb0 _ _).trans hb
          have b1 : w'.heap[w.heap.size + 1]? = some (.cells #[.int .i64 0, .int .i64 0, .int .i64 0, .int .i64 0, .int .i64 0, .int .i64 0, .slice none 0 0] 47 (0, 0)) := (hb.block (w.heap.size + 1) (by simp)).trans (two_second w _ _)
          have B1 := Lib.hid b1
          clear b1
          have y2 := hE0.get y1
          have z5 := World.block_lt_of_cell? _ _ y2
          go_wp2_with fail
          go_quiet (fail)
          go_wp2
          refine bodyPost_ret (results_row3 rfl _ _ (w.heap.size + 1) 47 _ (0, 0) _ rfl (set_seven (by exact B1.out)) Try.underlying47 rfl info47) rfl ?_
          exact OwnSense.bare (ext_seven (hE0.drewN _) (by omega))
        have q4 : ((t.parts.length : Int) == 32) = false := by simp; omega
        by_cases hn : t.next = 1099511627776
        · rw [show sense t = (noTrack, 0, 9) from by unfold sense; rw [if_pos hok, if_neg hone, if_pos (.inr hn)]]
          have q5 : (t.next == 1099511627776) = true := by simpa using hn
          clear hn hone
          go_enter Try.func31, Try.ntmps31
          go_wp2_with ((go_at_call 35; refine (Ext.lift (w35 t _ _ (HV.out.ext (hb0 _ _))) (by first | assumption | exact Ext.refl _)).mono ?_; rintro e w' ⟨rfl, hb⟩; have hc := hb.cell; have hf := hb.frozen))
          have hE0 : Ext w w' := (hb0 _ _).trans hb
          have b1 : w'.heap[w.heap.size + 1]? = some (.cells #[.int .i64 0, .int .i64 0, .int .i64 0, .int .i64 0, .int .i64 0, .int .i64 0, .slice none 0 0] 47 (0, 0)) := (hb.block (w.heap.size + 1) (by simp)).trans (two_second w _ _)
          have B1 := Lib.hid b1
          clear b1
          have y2 := hE0.get y1
          have z5 := World.block_lt_of_cell? _ _ y2
          go_wp2_with fail
          go_quiet (fail)
          go_wp2
          refine bodyPost_ret (results_row3 rfl _ _ (w.heap.size + 1) 47 _ (0, 0) _ rfl (set_seven (by exact B1.out)) Try.underlying47 rfl info47) rfl ?_
          exact OwnSense.bare (ext_seven (hE0.drewN _) (by omega))
        · have hfull : ¬ (t.parts.length = 32 ∨ t.next = 1099511627776) := by omega
          have q5 : (t.next == 1099511627776) = false := by simpa using hn
          obtain ⟨r, hr⟩ : ∃ r, sense t = r := ⟨_, rfl⟩
          rw [hr]
          have HR : Hid (r = (⟨t.belt, t.count, t.next + 1, t.parts ++ [⟨t.next, t.count, 0, false⟩]⟩, t.next, 0)) := by rw [← hr]; unfold sense; rw [if_pos hok, if_neg hone, if_neg hfull]; rfl
          clear hn hfull hone hr h32
          go_enter Try.func31, Try.ntmps31
          go_wp2_with ((go_at_call 35; refine (Ext.lift (w35 t _ _ (HV.out.ext (hb0 _ _))) (by first | assumption | exact Ext.refl _)).mono ?_; rintro e w' ⟨rfl, hb⟩; have hc := hb.cell; have hf := hb.frozen))
          have hE0 : Ext w w' := (hb0 _ _).trans hb
          have b0 : w'.heap[w.heap.size]? = some (.cells #[.int .i64 t.belt.step, .int .i64 t.belt.slip, .int .i64 t.belt.gate, .int .i64 t.belt.length, .int .i64 t.count, .int .i64 t.next, .slice (some ⟨b, off, none⟩) t.parts.length cap] 47 (0, 0)) := (hb.block w.heap.size (by rw [size_one, size_one]; omega)).trans (two_first w _ _)
          have B0 := Lib.hid b0
          clear b0
          have b1 : w'.heap[w.heap.size + 1]? = some (.cells #[.int .i64 0, .int .i64 0, .int .i64 0, .int .i64 0, .int .i64 0, .int .i64 0, .slice none 0 0] 47 (0, 0)) := (hb.block (w.heap.size + 1) (by simp)).trans (two_second w _ _)
          have B1 := Lib.hid b1
          clear b1
          have y2 := hE0.get y1
          have z5 := World.block_lt_of_cell? _ _ y2
          go_wp2_with fail
          go_quiet (fail)
          have hEr : Ext w (w'.drewN nq) := hE0.drewN _
          have hszr : w.heap.size + 2 ≤ (w'.drewN nq).heap.size := by have := hb.size; rw [size_one, size_one] at this; exact this
          have B0r : Hid ((w'.drewN nq).heap[w.heap.size]? = some (.cells #[.int .i64 t.belt.step, .int .i64 t.belt.slip, .int .i64 t.belt.gate, .int .i64 t.belt.length, .int .i64 t.count, .int .i64 t.next, .slice (some ⟨b, off, none⟩) t.parts.length cap] 47 (0, 0))) := B0.out
          have B1r : Hid ((w'.drewN nq).heap[w.heap.size + 1]? = some (.cells #[.int .i64 0, .int .i64 0, .int .i64 0, .int .i64 0, .int .i64 0, .int .i64 0, .slice none 0 0] 47 (0, 0))) := B1.out
          generalize w'.drewN nq = wr at hEr B0r B1r hszr ⊢
          have hVr := Lib.hid (HV.out.ext hEr)
          have c4 := cell_of_at B0r.out 4 rfl
          have c5 := cell_of_at B0r.out 5 rfl
          have c6 := cell_of_at B0r.out 6 rfl
          clear hc hf
          go_wp2_with fail
          obtain ⟨i0, hi, hz0, hz1, hz2⟩ := info_parts info63
          have hst := RG.stab_of (gs31_stab t (some ⟨b, off, none⟩) cap w.heap.size)
          refine RG.wp_rg (gs31 t (some ⟨b, off, none⟩) cap w.heap.size) (fun _ => []) (by kernel_rfl) (by kernel_rfl) (by kernel_rfl) ?_ ?_
          · simp only [gs31, List.length_cons, List.length_nil, List.take_succ_cons, List.take_zero, RG.Steps, and_true, Nat.reduceAdd]
            refine ⟨?_, ?_, ?_, ?_, ?_, ?_, ?_, ?_, ?_, ?_, ?_, ?_⟩
            · refine RG.st_run rfl (fun a wx hw hr => ⟨_, wx, ?_, Ext.refl _, rfl⟩) hst
              have e := RG.read_out (t := 1) hr (by kernel_rfl) (by kernel_rfl)
              have e' : a.tmps[1]?.getD undef = .pointer (some ⟨w.heap.size, 0, none⟩) := (Array.getD_eq_getD_getElem? ..).symm.trans e
              clear hr hst e
              simp [execOp, go_sem, e', Try.underlying47]
            · refine RG.st_run rfl (fun a wx hw hr => ⟨_, wx, ?_, Ext.refl _, rfl⟩) hst
              have ea0 := RG.read_in (t := 42) (j := 0) hr (by kernel_rfl) (by kernel_rfl)
              have ea : a.tmps[42]?.getD undef = .pointer (some ⟨w.heap.size, 6, none⟩) := (Array.getD_eq_getD_getElem? ..).symm.trans ea0
              have f0 := hw.get c6
              clear hr hst ea0
              simp [execOp, go_sem, ea, f0]
            · exact RG.st_move rfl rfl (by kernel_rfl) (fun _ _ => rfl) hst
            · exact RG.st_move rfl rfl (by kernel_rfl) (fun _ _ => rfl) hst
            · refine RG.st_run rfl (fun a wx hw hr => ⟨.slice (some ⟨b, off, none⟩) t.parts.length t.parts.length, wx, ?_, Ext.refl _, ⟨_, rfl⟩, ?_⟩) hst
              · have ea0 := RG.read_in (t := 43) (j := 1) hr (by kernel_rfl) (by kernel_rfl)
                have ea : a.tmps[43]?.getD undef = .slice (some ⟨b, off, none⟩) t.parts.length cap := (Array.getD_eq_getD_getElem? ..).symm.trans ea0
                have eb0 := RG.read_in (t := 44) (j := 2) hr (by kernel_rfl) (by kernel_rfl)
                have eb : a.tmps[44]?.getD undef = .int .i64 t.parts.length := (Array.getD_eq_getD_getElem? ..).symm.trans eb0
                have ec0 := RG.read_in (t := 45) (j := 3) hr (by kernel_rfl) (by kernel_rfl)
                have ec : a.tmps[45]?.getD undef = .int .i64 t.parts.length := (Array.getD_eq_getD_getElem? ..).symm.trans ec0
                clear hr hst ea0 eb0 ec0
                simp [execOp, go_sem, ea, eb, ec, Try.underlying45]
                intro h9
                omega
              · obtain ⟨m1, ao', cap2, hv9, m2, m3, m4, m5⟩ := hVr.out.ext hw
                injection hv9 with hv7 _ hv8
                subst hv7
                exact ⟨m1, _, _, rfl, Nat.le_refl _, by omega, fun h => by have := m4 h; omega, m5⟩
            · exact RG.st_move rfl rfl (by kernel_rfl) (fun _ _ => rfl) hst
            · refine RG.st_run rfl (fun a wx hw hr => ⟨_, wx, ?_, Ext.refl _, rfl⟩) hst
              have e := RG.read_out (t := 1) hr (by kernel_rfl) (by kernel_rfl)
              have e' : a.tmps[1]?.getD undef = .pointer (some ⟨w.heap.size, 0, none⟩) := (Array.getD_eq_getD_getElem? ..).symm.trans e
              clear hr hst e
              simp [execOp, go_sem, e', Try.underlying47]
            · refine RG.st_run rfl (fun a wx hw hr => ⟨_, wx, ?_, Ext.refl _, rfl⟩) hst
              have ea0 := RG.read_in (t := 48) (j := 6) hr (by kernel_rfl) (by kernel_rfl)
              have ea : a.tmps[48]?.getD undef = .pointer (some ⟨w.heap.size, 4, none⟩) := (Array.getD_eq_getD_getElem? ..).symm.trans ea0
              have f0 := hw.get c4
              clear hr hst ea0
              simp [execOp, go_sem, ea, f0]
            · refine RG.st_run rfl (fun a wx hw hr => ⟨_, wx, ?_, Ext.refl _, rfl⟩) hst
              have ea0 := RG.read_in (t := 47) (j := 5) hr (by kernel_rfl) (by kernel_rfl)
              have ea : a.tmps[47]?.getD undef = .int .i64 t.next := (Array.getD_eq_getD_getElem? ..).symm.trans ea0
              have eb0 := RG.read_in (t := 49) (j := 7) hr (by kernel_rfl) (by kernel_rfl)
              have eb : a.tmps[49]?.getD undef = .int .i64 t.count := (Array.getD_eq_getD_getElem? ..).symm.trans eb0
              clear hr hst ea0 eb0
              simp [execOp, go_sem, ea, eb, Try.underlying63]
            · refine RG.st_run rfl (fun a wx hw hr => ⟨.slice (some ⟨wx.heap.size, 0, none⟩) 1 1, wx.alloc (.cells #[.int .i64 t.next, .int .i64 t.count, .int .u8 0, .bool false] 63), ?_, (Ext.refl _).alloc _, SlAt.of_owns (owns_lit wx [.int .i64 t.next, .int .i64 t.count, .int .u8 0, .bool false] 63 1 4 0 (Nat.zero_le _) (by unfold maxLen; omega) rfl)⟩) hst
              have ea0 := RG.read_in (t := 50) (j := 8) hr (by kernel_rfl) (by kernel_rfl)
              have ea : a.tmps[50]?.getD undef = .agg #[.int .i64 t.next, .int .i64 t.count, .int .u8 0, .bool false] := (Array.getD_eq_getD_getElem? ..).symm.trans ea0
              clear hr hst ea0
              simp [execOp, go_sem, ea]
            · refine RG.st_wp rfl (fun a wx Q hw hr => ?_)
              obtain ⟨⟨a5, e1⟩, e2⟩ := RG.read_in (t := 46) (j := 4) hr (by kernel_rfl) (by kernel_rfl)
              have e3 := RG.read_in (t := 51) (j := 9) hr (by kernel_rfl) (by kernel_rfl)
              refine wp_append_full (.tmp 46) (.tmp 51) 45 rfl 63 i0 (.agg #[.int .i64 0, .int .i64 0, .int .u8 0, .bool false]) 4 24 Try.underlying45 hi hz0 hz1 hz2 rfl (by omega) _ t.parts.length (seens t.parts) rfl e2 ⟨a5, e1⟩ _ 1 [.int .i64 t.next, .int .i64 t.count, .int .u8 0, .bool false] rfl e3 (by simp [Value.oneCell']) (by unfold maxLen; omega) (by omega) ?_
              rintro v' wy hb' (⟨h9, -⟩ | ⟨-, ho⟩)
              · omega
              refine ⟨_, rfl, hw.trans hb', fun j v _ _ _ h => hst j v _ _ h hb', ?_⟩
              show wy.ownsRow _ 63 4 _ (t.parts.length + 1) (seens (t.parts ++ [⟨t.next, t.count, 0, false⟩]))
              rw [seens_append]
              exact owns_base ho (by have := hw.size; omega)
            · refine RG.st_run rfl (fun a wx hw hr => ⟨_, wx, ?_, Ext.refl _, rfl⟩) hst
              have e := RG.read_out (t := 1) hr (by kernel_rfl) (by kernel_rfl)
              have e' : a.tmps[1]?.getD undef = .pointer (some ⟨w.heap.size, 0, none⟩) := (Array.getD_eq_getD_getElem? ..).symm.trans e
              clear hr hst e
              simp [execOp, go_sem, e', Try.underlying47]
          · intro wq hwq
            simp only [gs31, List.length_cons, List.length_nil, List.take_succ_cons, List.take_zero, RG.Fin, RG.goneBy, Nat.reduceAdd, List.drop_succ_cons, List.drop_zero]
            intro v0 h0 v1 h1 v2 h2 v3 h3 v4 _ v5 h5 v6 h6 v7 h7 v8 h8 v9 _ v10 h10 v11 h11
            obtain rfl := h0 (by decide)
            obtain rfl := h1 (by decide)
            obtain rfl := h2 (by decide)
            obtain rfl := h3 (by decide)
            obtain rfl := h5 (by decide)
            obtain rfl := h6 (by decide)
            obtain rfl := h7 (by decide)
            obtain rfl := h8 (by decide)
            obtain rfl := h11 (by decide)
            have ho := h10 (by decide)
            clear h0 h1 h2 h3 h5 h6 h7 h8 h10 h11
            simp only [Act.put, List.setIfInBounds_toArray, List.set_cons_zero, List.set_cons_succ]
            have b0 := (hwq.block w.heap.size (by omega)).trans B0r.out
            have b1 := (hwq.block (w.heap.size + 1) (by omega)).trans B1r.out
            clear c4 c5 c6
            have hsl := SlAt.of_owns ho
            obtain ⟨-, sa, sc, hvv, -⟩ := hsl
            subst hvv
            have c0 := cell_of_at b0 0 rfl
            have r0 := cell_of_at b1 0 rfl
            have n0 := free_of_at b0 0
            have m0 := free_of_at b1 0
            have c1 := cell_of_at b0 1 rfl
            have r1 := cell_of_at b1 1 rfl
            have n1 := free_of_at b0 1
            have m1 := free_of_at b1 1
            have c2 := cell_of_at b0 2 rfl
            have r2 := cell_of_at b1 2 rfl
            have n2 := free_of_at b0 2
            have m2 := free_of_at b1 2
            have c3 := cell_of_at b0 3 rfl
            have r3 := cell_of_at b1 3 rfl
            have n3 := free_of_at b0 3
            have m3 := free_of_at b1 3
            have c4 := cell_of_at b0 4 rfl
            have r4 := cell_of_at b1 4 rfl
            have n4 := free_of_at b0 4
            have m4 := free_of_at b1 4
            have c5 := cell_of_at b0 5 rfl
            have r5 := cell_of_at b1 5 rfl
            have n5 := free_of_at b0 5
            have m5 := free_of_at b1 5
            have c6 := cell_of_at b0 6 rfl
            have r6 := cell_of_at b1 6 rfl
            have n6 := free_of_at b0 6
            have m6 := free_of_at b1 6
            have HO := Lib.hid ho
            have hEq := hEr.trans hwq
            have BQ := Lib.hid b1
            clear ho b0 b1 hst
            go_wp2
            refine bodyPost_ret (results_row3 rfl _ _ (w.heap.size + 1) 47 _ (0, 0) _ rfl (set_seven (by rw [Below.heap_setCell _ _ _ _ (show w.heap.size + 1 ≠ w.heap.size by omega), Below.heap_setCell _ _ _ _ (show w.heap.size + 1 ≠ w.heap.size by omega)]; exact BQ.out)) Try.underlying47 rfl info47) rfl ?_
            rw [HR.out]
            refine ⟨.slice sa (t.parts.length + 1) sc, rfl, ?_, ext_seven ((hEq.setCell (Nat.le_refl _) _).setCell (Nat.le_refl _) _) (by omega)⟩
            simp only [List.length_append, List.length_cons, List.length_nil, Nat.zero_add]
            exact owns_base (base := w.heap.size + 2) (own_seven (b := w.heap.size + 1) (own_set (bo := w.heap.size) (o := 5) (own_set (bo := w.heap.size) (o := 6) HO.out (by omega)) (by omega)) (by omega)) (by omega)

  · have hct : checkTrack t = 0 ↔ False := by
      rw [checkTrack_zero]
      simp [hok]
    rw [show sense t = (noTrack, 0, checkTrack t) from if_neg hok]
    have hcf : (checkTrack t == 0) = false := by simp [hct]
    go_enter Try.func31, Try.ntmps31
    go_wp2_with ((go_at_call 35; refine (Ext.lift (w35 t _ _ (HV.out.ext (hb0 _ _))) (by first | assumption | exact Ext.refl _)).mono ?_; rintro e w' ⟨rfl, hb⟩; have hc := hb.cell; have hf := hb.frozen))
    have hE0 : Ext w w' := (hb0 _ _).trans hb
    have b1 : w'.heap[w.heap.size + 1]? = some (.cells #[.int .i64 0, .int .i64 0, .int .i64 0, .int .i64 0, .int .i64 0, .int .i64 0, .slice none 0 0] 47 (0, 0)) := (hb.block (w.heap.size + 1) (by simp)).trans (two_second w _ _)
    have B1 := Lib.hid b1
    clear b1
    refine bodyPost_ret (results_row3 rfl _ _ (w.heap.size + 1) 47 _ (0, 0) _ rfl (set_seven (by exact B1.out)) Try.underlying47 rfl info47) rfl ?_
    exact OwnSense.bare (ext_seven hE0 (by omega))
end Go.Proofs.Ytcbimfaneinpkaa
