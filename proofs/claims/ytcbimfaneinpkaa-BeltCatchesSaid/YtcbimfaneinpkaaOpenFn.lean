/- The walk of the program's Open. -/
import Derived.Test.YtcbimfaneinpkaaGate2
import Derived.Test.YtcbimfaneinpkaaCheck
set_option linter.unusedVariables false
set_option linter.unusedSimpArgs false
namespace Go.Proofs.Ytcbimfaneinpkaa
open Go.RowKit Go.Sort

/-- 'at(t).open(t.Count + 1)' -/
def gs38 (t : Track) (v : Value) (N : Nat) (r : Bool) : List (Value → World → Prop) :=
  [fun x _ => x = trackVal t v, fun x w => ∃ b vp, x = .pointer (some ⟨b, 0, none⟩) ∧ GateAt w b t vp ∧ SeensAt w vp t.parts, fun x _ => x = .pointer (some ⟨N, 4, none⟩), fun x _ => x = .int .i64 t.count, fun x _ => x = .int .i64 (t.count + 1), fun x _ => x = .bool r]
theorem gs38_stab (t : Track) (v : Value) (N : Nat) (r : Bool) : ∀ g ∈ gs38 t v N r, ∀ x w w', g x w → Ext w w' → g x w' := by
  intro g hg x w w' h hb
  simp only [gs38, List.mem_cons, List.not_mem_nil, or_false] at hg
  rcases hg with rfl | rfl | rfl | rfl | rfl | rfl
  · exact h
  · obtain ⟨b, vp, h1, h2, h3⟩ := h
    exact ⟨b, vp, h1, h2.ext hb, h3.ext hb⟩
  · exact h
  · exact h
  · exact h
  · exact h
set_option maxRecDepth 100000 in
set_option maxHeartbeats 4000000 in
theorem w38 (t : Track) (v : Value) (w : World) (hv : SeensAt w v t.parts) (hl : t.parts.length ≤ 50) :
    Calls Try.prog 38 #[trackVal t v] w fun e w' => e = .returned (.tuple #[.bool (openR t).1, .int .i64 (openR t).2]) ∧ Ext w w' := by
  have HV := Lib.hid hv
  obtain ⟨q1, ao, cap, rfl, k1, k2, -⟩ := hv
  have hb1 : ∀ A, Ext w (w.alloc A) := fun A => (Ext.refl _).alloc A
  by_cases hok : t.ok
  · have hct : checkTrack t = 0 := checkTrack_ok hok
    rw [show openR t = (openAt t (t.count + 1), 0) from if_pos hok]
    obtain ⟨r, hr⟩ : ∃ r, openAt t (t.count + 1) = r := ⟨_, rfl⟩
    rw [hr]
    have HR := Lib.hid hr
    have hI := PartsIn.of_ok hok
    obtain ⟨s1, s2, -⟩ := hok.2.1
    clear hr
    go_enter Try.func38, Try.ntmps38
    go_wp2_with ((go_at_call 35; refine (Ext.lift (w35 t _ _ (HV.out.ext (hb1 _))) (by first | assumption | exact Ext.refl _)).mono ?_; rintro e w' ⟨rfl, hb⟩; have hc := hb.cell; have hf := hb.frozen))
    have hE0 : Ext w w' := (hb1 _).trans hb
    have b0 : w'.heap[w.heap.size]? = some (.cells #[.int .i64 t.belt.step, .int .i64 t.belt.slip, .int .i64 t.belt.gate, .int .i64 t.belt.length, .int .i64 t.count, .int .i64 t.next, .slice ao t.parts.length cap] 47 (0, 0)) := (hb.block w.heap.size (by rw [size_one]; omega)).trans (blk_at w _ rfl)
    have c0 := cell_of_at b0 0 rfl
    have c1 := cell_of_at b0 1 rfl
    have c2 := cell_of_at b0 2 rfl
    have c3 := cell_of_at b0 3 rfl
    have c4 := cell_of_at b0 4 rfl
    have c5 := cell_of_at b0 5 rfl
    have c6 := cell_of_at b0 6 rfl
    clear hc hf b0
    have hst := RG.stab_of (gs38_stab t (.slice ao t.parts.length cap) w.heap.size r)
    refine RG.wp_rg (gs38 t (.slice ao t.parts.length cap) w.heap.size r) (fun _ => []) (by kernel_rfl) (by kernel_rfl) (by kernel_rfl) ?_ ?_
    · simp only [gs38, List.length_cons, List.length_nil, List.take_succ_cons, List.take_zero, RG.Steps, and_true, Nat.reduceAdd]
      refine ⟨?_, ?_, ?_, ?_, ?_, ?_⟩
      · refine RG.st_run rfl (fun a wx hw hr => ⟨_, wx, ?_, Ext.refl _, rfl⟩) hst
        have e := RG.read_out (t := 1) hr (by kernel_rfl) (by kernel_rfl)
        have e' : a.tmps[1]?.getD undef = .pointer (some ⟨w.heap.size, 0, none⟩) := (Array.getD_eq_getD_getElem? ..).symm.trans e
        have f0 := hw.get c0
        have f1 := hw.get c1
        have f2 := hw.get c2
        have f3 := hw.get c3
        have f4 := hw.get c4
        have f5 := hw.get c5
        have f6 := hw.get c6
        clear hr hst e c0 c1 c2 c3 c4 c5 c6
        simp [execOp, go_sem, e', f0, f1, f2, f3, f4, f5, f6]
      · refine RG.st_call rfl 66 _ _ rfl Try.func66 (by kernel_rfl) rfl (fun a wx hw hr => ?_) hst
        have e1 := RG.read_in (t := 10) (j := 0) hr (by kernel_rfl) (by kernel_rfl)
        have hargs : (#[Operand.tmp 10].map a.eval) = #[trackVal t (.slice ao t.parts.length cap)] := by
          simp only [List.map_toArray, List.map_cons, List.map_nil]
          rw [show a.eval (.tmp 10) = _ from e1]
        rw [hargs]
        refine (w66 t _ wx (HV.out.ext (hE0.trans hw)) hI).mono ?_
        rintro e w2 ⟨b, vp, rfl, g1, g2, g3, g4, g5⟩
        exact ⟨_, rfl, g5, b, vp, rfl, g2, SlAt.of_owns g3⟩
      · refine RG.st_run rfl (fun a wx hw hr => ⟨_, wx, ?_, Ext.refl _, rfl⟩) hst
        have e := RG.read_out (t := 1) hr (by kernel_rfl) (by kernel_rfl)
        have e' : a.tmps[1]?.getD undef = .pointer (some ⟨w.heap.size, 0, none⟩) := (Array.getD_eq_getD_getElem? ..).symm.trans e
        clear hr hst e
        simp [execOp, go_sem, e', Try.underlying47]
      · refine RG.st_run rfl (fun a wx hw hr => ⟨_, wx, ?_, Ext.refl _, rfl⟩) hst
        have ea0 := RG.read_in (t := 12) (j := 2) hr (by kernel_rfl) (by kernel_rfl)
        have ea : a.tmps[12]?.getD undef = .pointer (some ⟨w.heap.size, 4, none⟩) := (Array.getD_eq_getD_getElem? ..).symm.trans ea0
        have f0 := hw.get c4
        clear hr hst ea0
        simp [execOp, go_sem, ea, f0]
      · refine RG.st_run rfl (fun a wx hw hr => ⟨_, wx, ?_, Ext.refl _, rfl⟩) hst
        have ea0 := RG.read_in (t := 13) (j := 3) hr (by kernel_rfl) (by kernel_rfl)
        have ea : a.tmps[13]?.getD undef = .int .i64 t.count := (Array.getD_eq_getD_getElem? ..).symm.trans ea0
        clear hr hst ea0
        have hwrap : IntKind.i64.wrap (t.count + 1) = t.count + 1 := by simp [IntKind.wrap, IntKind.bits, IntKind.signed]; omega
        simp [execOp, go_sem, ea, hwrap]
      · refine RG.st_call rfl 67 _ _ rfl Try.func67 (by kernel_rfl) rfl (fun a wx hw hr => ?_) hst
        obtain ⟨b, vp, e1, g2, g3⟩ := RG.read_in (t := 11) (j := 1) hr (by kernel_rfl) (by kernel_rfl)
        have e2 := RG.read_in (t := 14) (j := 4) hr (by kernel_rfl) (by kernel_rfl)
        have hargs : (#[Operand.tmp 11, Operand.tmp 14].map a.eval) = #[.pointer (some ⟨b, 0, none⟩), .int .i64 (t.count + 1)] := by
          simp only [List.map_toArray, List.map_cons, List.map_nil]
          rw [show a.eval (.tmp 11) = _ from e1, show a.eval (.tmp 14) = _ from e2]
        rw [hargs]
        refine (w67 t b vp (t.count + 1) wx g2 g3 hI).mono ?_
        rintro e w2 ⟨rfl, g5⟩
        exact ⟨_, rfl, g5, by rw [HR.out]; rfl⟩
    · intro wq hwq
      simp only [gs38, List.length_cons, List.length_nil, List.take_succ_cons, List.take_zero, RG.Fin, RG.goneBy, Nat.reduceAdd, List.drop_succ_cons, List.drop_zero]
      intro v0 h0 v1 h1 v2 h2 v3 h3 v4 h4 v5 h5
      obtain rfl := h0 (by decide)
      obtain ⟨b, vp, rfl, -, -⟩ := h1 (by decide)
      obtain rfl := h2 (by decide)
      obtain rfl := h3 (by decide)
      obtain rfl := h4 (by decide)
      obtain rfl := h5 (by decide)
      clear h0 h1 h2 h3 h4 h5 c0 c1 c2 c3 c4 c5 c6
      simp only [Act.put, List.setIfInBounds_toArray, List.set_cons_zero, List.set_cons_succ]
      go_wp2
      go_ret2
      exact ⟨rfl, hE0.trans hwq⟩
  · have hct : checkTrack t ≠ 0 := fun h => hok (checkTrack_zero.1 h)
    rw [show openR t = (false, checkTrack t) from if_neg hok]
    have hcf : (checkTrack t == 0) = false := by simp [hct]
    go_enter Try.func38, Try.ntmps38
    go_wp2_with ((go_at_call 35; refine (Ext.lift (w35 t _ _ (HV.out.ext (hb1 _))) (by first | assumption | exact Ext.refl _)).mono ?_; rintro e w' ⟨rfl, hb⟩; have hc := hb.cell; have hf := hb.frozen))
    all_goals go_ret2
    all_goals exact ⟨rfl, (hb1 _).trans hb⟩
end Go.Proofs.Ytcbimfaneinpkaa
