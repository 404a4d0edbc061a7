/- The modules of a digit: the program's. -/
import Derived.Test.YtlnofbdhamingaaByteFn
import Derived.Deep.MidRow
import Derived.Deep.WholeRow
set_option linter.unusedVariables false
set_option linter.unusedSimpArgs false
namespace Go.Proofs.Ytlnofbdhamingaa
open Go.RowKit Go.Sort

theorem info_arr : (Try.prog.info? 43).map (fun i => (i.zero, i.size)) = some (some (.agg (Array.replicate 15 (.int .u8 0))), 15) := by kernel_rfl
def glyphT : List (List Nat) := [[1, 1, 1, 1, 0, 1, 1, 0, 1, 1, 0, 1, 1, 1, 1], [0, 1, 0, 1, 1, 0, 0, 1, 0, 0, 1, 0, 1, 1, 1], [1, 1, 1, 0, 0, 1, 1, 1, 1, 1, 0, 0, 1, 1, 1], [1, 1, 1, 0, 0, 1, 1, 1, 1, 0, 0, 1, 1, 1, 1], [1, 0, 1, 1, 0, 1, 1, 1, 1, 0, 0, 1, 0, 0, 1], [1, 1, 1, 1, 0, 0, 1, 1, 1, 0, 0, 1, 1, 1, 1], [1, 1, 1, 1, 0, 0, 1, 1, 1, 1, 0, 1, 1, 1, 1], [1, 1, 1, 0, 0, 1, 0, 1, 0, 0, 1, 0, 0, 1, 0], [1, 1, 1, 1, 0, 1, 1, 1, 1, 1, 0, 1, 1, 1, 1], [1, 1, 1, 1, 0, 1, 1, 1, 1, 0, 0, 1, 1, 1, 1]]
def glyphR (d : Nat) : List Nat := glyphT.getD d []
theorem glyphR_length : ∀ d, d < 10 → (glyphR d).length = 15 := by decide
theorem glyphR_01 : ∀ d, d < 10 → ∀ x ∈ glyphR d, x ≤ 1 := by decide
def gsign : ByteArray := { data := #[49, 49, 49, 49, 48, 49, 49, 48, 49, 49, 48, 49, 49, 49, 49, 48, 49, 48, 49, 49, 48, 48, 49, 48, 48, 49, 48, 49, 49, 49, 49, 49, 49, 48, 48, 49, 49, 49, 49, 49, 48, 48, 49, 49, 49, 49, 49, 49, 48, 48, 49, 49, 49, 49, 48, 48, 49, 49, 49, 49, 49, 48, 49, 49, 48, 49, 49, 49, 49, 48, 48, 49, 48, 48, 49, 49, 49, 49, 49, 48, 48, 49, 49, 49, 48, 48, 49, 49, 49, 49, 49, 49, 49, 49, 48, 48, 49, 49, 49, 49, 48, 49, 49, 49, 49, 49, 49, 49, 48, 48, 49, 48, 49, 48, 48, 49, 48, 48, 49, 48, 49, 49, 49, 49, 48, 49, 49, 49, 49, 49, 48, 49, 49, 49, 49, 49, 49, 49, 49, 48, 49, 49, 49, 49, 48, 48, 49, 49, 49, 49] }
theorem gsign_list : ((List.range 10).all fun d => (List.range 15).all fun k => (((gsign.data.toList.getD (d * 15 + k) 0).toNat : Int) - 48) % 256 == ((glyphR d).getD k 0 : Nat)) = true := by kernel_rfl
theorem gsign_at (d k : Nat) (hd : d < 10) (hk : k < 15) (h : d * 15 + k < gsign.size) : (((gsign[d * 15 + k]'h).toNat : Int) - 48) % 256 = ((glyphR d).getD k 0 : Nat) := by
  have h1 := List.all_eq_true.1 (List.all_eq_true.1 gsign_list d (List.mem_range.2 hd)) k (List.mem_range.2 hk)
  rw [beq_iff_eq] at h1
  rw [← h1, List.getD_eq_getElem?_getD, List.getElem?_eq_getElem (by rw [Array.length_toList]; exact h)]
  rfl
/-- the result's cells lie in a block of any kind -/
theorem results_cell_mid {P : Program} {fn : Func} {p : Tmp} {ty : TypeId} (h : fn.results = #[.cell p ty]) (tmps : Array Value) (w : World) (g : Nat) (cs : List Value) (d : TypeDesc)
    (hp : tmps.getD p undef = .pointer (some ⟨g, 0, none⟩)) (hc : w.rangeAt g 0 cs)
    (hu : P.underlying ty = some d) (hd : d.isRow = true) (hi : (P.info? ty).map (·.size) = some cs.length) :
    (results fn tmps).run P w = .ok (.agg cs.toArray) w := by
  have hp' : tmps[p]?.getD undef = .pointer (some ⟨g, 0, none⟩) := by simpa using hp
  simp [results, h, hp', asAddr, run_loadVar_mid w g 0 ty cs d hc hu hd hi]
set_option maxRecDepth 100000 in
set_option maxHeartbeats 16000000 in
theorem c_glyph (d : Nat) (hd : d < 10) (w : World) : Calls Try.prog 11 #[.int .i64 (d : Int)] w fun e w' => e = .returned (.agg (bytesL (glyphR d)).toArray) ∧ Ext w w' := by
  obtain ⟨z0, z1⟩ := zero_of_info info_arr
  have hgl := glyphR_length d hd
  go_enter Try.func11, Try.ntmps11
  go_wp2
  have hO1 := owns_ext (owns_lit w (List.replicate 15 (.int .u8 0)) 43 15 1 w.heap.size (Nat.le_refl _) (by unfold maxLen; omega) rfl) ((Ext.refl _).alloc (.cells (Array.replicate 15 (.int .u8 0)) 43))
  have hO2 := owns_lit (w.alloc (.cells (Array.replicate 15 (.int .u8 0)) 43)) (List.replicate 15 (.int .u8 0)) 43 15 1 w.heap.size (Ext.size ((Ext.refl w).alloc _)) (by unfold maxLen; omega) rfl
  rw [← rowK_zero (glyphR d) 15] at hO2
  have hz9 : ∀ o, (w.alloc o).heap.size = w.heap.size + 1 := fun o => Array.size_push _
  rw [hz9] at hO2
  have HO1 := Lib.hid hO1
  have HO2 := Lib.hid hO2
  have HGL := Lib.hid hgl
  clear hO1 hO2 hz9 hgl
  go_loopw [5] (fun i wr => ∃ k : Nat, k ≤ 15 ∧ i = .int .i64 (k : Int) ∧ Ext w wr ∧ Hid (wr.ownsRow w.heap.size 43 1 (.slice (some ⟨w.heap.size, 0, none⟩) 15 15) 15 (List.replicate 15 (.int .u8 0))) ∧ Hid (wr.ownsRow w.heap.size 43 1 (.slice (some ⟨w.heap.size + 1, 0, none⟩) 15 15) 15 (rowK (glyphR d) 15 k))) (fun i _ => 15 - (intOf i).toNat)
  case atStart => exact ⟨0, by omega, rfl, by exact ((Ext.refl w).alloc _).alloc _, HO1, HO2⟩
  case round =>
    obtain ⟨k, hk, rfl, hE, hR, hO⟩ := hrel
    by_cases hkl : k < 15
    · have r0 : wr.cell? ⟨w.heap.size + 1, k, none⟩ = some (.int .u8 0) := by rw [hO.out.cellAt k (by omega)]; exact rowK_get hkl HGL.out.symm
      have r1 := hO.out.frozenAt k
      go_wp2
      refine ⟨⟨k + 1, by omega, by go_num, hE.setCell (Nat.le_succ _) _, Lib.hid (ownsRow_setCell_other hR.out (fun h9 => absurd (Option.some.inj h9) (by show ¬ w.heap.size = w.heap.size + 1; omega)) _), Lib.hid ?_⟩, by simp [intOf]; omega⟩
      have h := (hO.out.stored k (.int .u8 ((glyphR d).getD k 0 : Nat))).1
      rw [rowK_set hkl HGL.out.symm, ← gsign_at d k hd hkl (by have : gsign.size = 150 := rfl; omega)] at h
      exact h
    · obtain rfl : k = 15 := by omega
      obtain ⟨g0, g1, g2, g3, g4, g5, g6, g7, g8, g9, g10, g11, g12, g13, g14, hg⟩ : ∃ g0 g1 g2 g3 g4 g5 g6 g7 g8 g9 g10 g11 g12 g13 g14, glyphR d = [g0, g1, g2, g3, g4, g5, g6, g7, g8, g9, g10, g11, g12, g13, g14] := by
        have h := HGL.out
        match glyphR d, h with
        | [g0, g1, g2, g3, g4, g5, g6, g7, g8, g9, g10, g11, g12, g13, g14], _ => exact ⟨g0, g1, g2, g3, g4, g5, g6, g7, g8, g9, g10, g11, g12, g13, g14, rfl⟩
      have HG := Lib.hid hg
      clear hg
      have c0 : wr.cell? ⟨w.heap.size + 1, 0, none⟩ = some (.int .u8 (g0 : Int)) := by rw [hO.out.cellAt 0 (by omega), HG.out]; rfl
      have c1 : wr.cell? ⟨w.heap.size + 1, 1, none⟩ = some (.int .u8 (g1 : Int)) := by rw [hO.out.cellAt 1 (by omega), HG.out]; rfl
      have c2 : wr.cell? ⟨w.heap.size + 1, 2, none⟩ = some (.int .u8 (g2 : Int)) := by rw [hO.out.cellAt 2 (by omega), HG.out]; rfl
      have c3 : wr.cell? ⟨w.heap.size + 1, 3, none⟩ = some (.int .u8 (g3 : Int)) := by rw [hO.out.cellAt 3 (by omega), HG.out]; rfl
      have c4 : wr.cell? ⟨w.heap.size + 1, 4, none⟩ = some (.int .u8 (g4 : Int)) := by rw [hO.out.cellAt 4 (by omega), HG.out]; rfl
      have c5 : wr.cell? ⟨w.heap.size + 1, 5, none⟩ = some (.int .u8 (g5 : Int)) := by rw [hO.out.cellAt 5 (by omega), HG.out]; rfl
      have c6 : wr.cell? ⟨w.heap.size + 1, 6, none⟩ = some (.int .u8 (g6 : Int)) := by rw [hO.out.cellAt 6 (by omega), HG.out]; rfl
      have c7 : wr.cell? ⟨w.heap.size + 1, 7, none⟩ = some (.int .u8 (g7 : Int)) := by rw [hO.out.cellAt 7 (by omega), HG.out]; rfl
      have c8 : wr.cell? ⟨w.heap.size + 1, 8, none⟩ = some (.int .u8 (g8 : Int)) := by rw [hO.out.cellAt 8 (by omega), HG.out]; rfl
      have c9 : wr.cell? ⟨w.heap.size + 1, 9, none⟩ = some (.int .u8 (g9 : Int)) := by rw [hO.out.cellAt 9 (by omega), HG.out]; rfl
      have c10 : wr.cell? ⟨w.heap.size + 1, 10, none⟩ = some (.int .u8 (g10 : Int)) := by rw [hO.out.cellAt 10 (by omega), HG.out]; rfl
      have c11 : wr.cell? ⟨w.heap.size + 1, 11, none⟩ = some (.int .u8 (g11 : Int)) := by rw [hO.out.cellAt 11 (by omega), HG.out]; rfl
      have c12 : wr.cell? ⟨w.heap.size + 1, 12, none⟩ = some (.int .u8 (g12 : Int)) := by rw [hO.out.cellAt 12 (by omega), HG.out]; rfl
      have c13 : wr.cell? ⟨w.heap.size + 1, 13, none⟩ = some (.int .u8 (g13 : Int)) := by rw [hO.out.cellAt 13 (by omega), HG.out]; rfl
      have c14 : wr.cell? ⟨w.heap.size + 1, 14, none⟩ = some (.int .u8 (g14 : Int)) := by rw [hO.out.cellAt 14 (by omega), HG.out]; rfl
      have d0 : wr.cell? ⟨w.heap.size, 0, none⟩ = some (.int .u8 0) := by rw [hR.out.cellAt 0 (by omega)]; rfl
      have f0 := hR.out.frozenAt 0
      have d1 : wr.cell? ⟨w.heap.size, 1, none⟩ = some (.int .u8 0) := by rw [hR.out.cellAt 1 (by omega)]; rfl
      have f1 := hR.out.frozenAt 1
      have d2 : wr.cell? ⟨w.heap.size, 2, none⟩ = some (.int .u8 0) := by rw [hR.out.cellAt 2 (by omega)]; rfl
      have f2 := hR.out.frozenAt 2
      have d3 : wr.cell? ⟨w.heap.size, 3, none⟩ = some (.int .u8 0) := by rw [hR.out.cellAt 3 (by omega)]; rfl
      have f3 := hR.out.frozenAt 3
      have d4 : wr.cell? ⟨w.heap.size, 4, none⟩ = some (.int .u8 0) := by rw [hR.out.cellAt 4 (by omega)]; rfl
      have f4 := hR.out.frozenAt 4
      have d5 : wr.cell? ⟨w.heap.size, 5, none⟩ = some (.int .u8 0) := by rw [hR.out.cellAt 5 (by omega)]; rfl
      have f5 := hR.out.frozenAt 5
      have d6 : wr.cell? ⟨w.heap.size, 6, none⟩ = some (.int .u8 0) := by rw [hR.out.cellAt 6 (by omega)]; rfl
      have f6 := hR.out.frozenAt 6
      have d7 : wr.cell? ⟨w.heap.size, 7, none⟩ = some (.int .u8 0) := by rw [hR.out.cellAt 7 (by omega)]; rfl
      have f7 := hR.out.frozenAt 7
      have d8 : wr.cell? ⟨w.heap.size, 8, none⟩ = some (.int .u8 0) := by rw [hR.out.cellAt 8 (by omega)]; rfl
      have f8 := hR.out.frozenAt 8
      have d9 : wr.cell? ⟨w.heap.size, 9, none⟩ = some (.int .u8 0) := by rw [hR.out.cellAt 9 (by omega)]; rfl
      have f9 := hR.out.frozenAt 9
      have d10 : wr.cell? ⟨w.heap.size, 10, none⟩ = some (.int .u8 0) := by rw [hR.out.cellAt 10 (by omega)]; rfl
      have f10 := hR.out.frozenAt 10
      have d11 : wr.cell? ⟨w.heap.size, 11, none⟩ = some (.int .u8 0) := by rw [hR.out.cellAt 11 (by omega)]; rfl
      have f11 := hR.out.frozenAt 11
      have d12 : wr.cell? ⟨w.heap.size, 12, none⟩ = some (.int .u8 0) := by rw [hR.out.cellAt 12 (by omega)]; rfl
      have f12 := hR.out.frozenAt 12
      have d13 : wr.cell? ⟨w.heap.size, 13, none⟩ = some (.int .u8 0) := by rw [hR.out.cellAt 13 (by omega)]; rfl
      have f13 := hR.out.frozenAt 13
      have d14 : wr.cell? ⟨w.heap.size, 14, none⟩ = some (.int .u8 0) := by rw [hR.out.cellAt 14 (by omega)]; rfl
      have f14 := hR.out.frozenAt 14
      go_wp2
      have hth : wr.there w.heap.size 0 15 := fun j hj => ⟨by rw [Nat.zero_add, hR.out.cellAt j hj, List.getElem?_replicate, if_pos hj]; rfl, by rw [Nat.zero_add]; exact hR.out.frozenAt j⟩
      have hrg := World.rangeAt_setCells_same wr w.heap.size 0 (bytesL [g0, g1, g2, g3, g4, g5, g6, g7, g8, g9, g10, g11, g12, g13, g14]) hth
      simp only [bytesL, List.map_cons, List.map_nil, World.setCells, Nat.reduceAdd] at hrg
      (try simp only [Exit.inBlock, Exit.then])
      refine bodyPost_ret (v := .agg [.int .u8 (g0 : Int), .int .u8 (g1 : Int), .int .u8 (g2 : Int), .int .u8 (g3 : Int), .int .u8 (g4 : Int), .int .u8 (g5 : Int), .int .u8 (g6 : Int), .int .u8 (g7 : Int), .int .u8 (g8 : Int), .int .u8 (g9 : Int), .int .u8 (g10 : Int), .int .u8 (g11 : Int), .int .u8 (g12 : Int), .int .u8 (g13 : Int), .int .u8 (g14 : Int)].toArray) ?_ rfl ⟨by rw [HG.out]; rfl, ?_⟩
      · exact results_cell_mid rfl _ _ w.heap.size _ _ rfl hrg Try.underlying43 rfl z1
      · iterate 15 refine Ext.setCell ?_ (Nat.le_refl _) _
        exact hE
end Go.Proofs.Ytlnofbdhamingaa
