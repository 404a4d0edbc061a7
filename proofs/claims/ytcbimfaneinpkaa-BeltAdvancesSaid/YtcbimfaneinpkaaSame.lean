/- The walk of Same: two tracks that are one. -/
import Derived.Test.YtcbimfaneinpkaaTwin
set_option linter.unusedVariables false
set_option linter.unusedSimpArgs false
namespace Go.Proofs.Ytcbimfaneinpkaa
open Go.RowKit Go.Sort

set_option maxRecDepth 100000 in
set_option maxHeartbeats 2000000 in
theorem w37 (t : Track) (v1 v2 : Value) (w : World) (h1 : SeensAt w v1 t.parts) (h2 : SeensAt w v2 t.parts) (hl : t.parts.length ≤ 1000000) :
    Calls Try.prog 37 #[trackVal t v1, trackVal t v2] w fun e w' => e = .returned (.bool true) ∧ Ext w w' := by
  have H1 := Lib.hid h1
  have H2 := Lib.hid h2
  obtain ⟨q1, a1, c1, rfl, -⟩ := h1
  obtain ⟨q2, a2, c2, rfl, -⟩ := h2
  go_enter Try.func37, Try.ntmps37
  go_wp2
  go_loopw [5] (fun v wr => Ext w wr ∧ wr.cell? ⟨w.heap.size, 6, none⟩ = some (.slice a1 t.parts.length c1) ∧ wr.cell? ⟨w.heap.size + 1, 6, none⟩ = some (.slice a2 t.parts.length c2) ∧ ∃ i : Nat, i ≤ t.parts.length ∧ v = .int .i64 i) (fun v _ => t.parts.length - (intOf v).toNat)
  case atStart => exact ⟨((Ext.refl _).alloc _).alloc _, cell_of_at (two_first _ _ _) 6 rfl, cell_of_at (two_second _ _ _) 6 rfl, 0, Nat.zero_le _, rfl⟩
  case round =>
    obtain ⟨hE, f1, f2, i, hi, rfl⟩ := hrel
    by_cases hil : i < t.parts.length
    · rcases H1.out.cases with ⟨h0, -⟩ | ⟨-, b1, o1, k1, hv1, -, -, x1⟩
      · rw [h0] at hil; simp at hil
      rcases H2.out.cases with ⟨h0, -⟩ | ⟨-, b2, o2, k2, hv2, -, -, x2⟩
      · rw [h0] at hil; simp at hil
      injection hv1 with hv3 hv4 hv5
      subst hv3
      injection hv2 with hv6 hv7 hv8
      subst hv6
      clear hv4 hv5 hv7 hv8
      obtain ⟨y0, y1, y2, y3⟩ := x1 i hil
      obtain ⟨z0, z1, z2, z3⟩ := x2 i hil
      generalize t.parts.getD i seen0 = x at y0 y1 y2 y3 z0 z1 z2 z3
      replace y0 := hE.get y0
      replace y1 := hE.get y1
      replace y2 := hE.get y2
      replace y3 := hE.get y3
      replace z0 := hE.get z0
      replace z1 := hE.get z1
      replace z2 := hE.get z2
      replace z3 := hE.get z3
      clear x1 x2
      go_wp2_with fail
      go_quiet (fail)
      go_wp2
      go_roundw
      case rel => exact ⟨hE.drewN _, ((Ext.refl wr).drewN _).get f1, ((Ext.refl wr).drewN _).get f2, i + 1, by omega, by go_num⟩
      case measure => simp [intOf]; omega
    · go_wp2
      go_ret
      exact ⟨rfl, hE⟩
end Go.Proofs.Ytcbimfaneinpkaa
