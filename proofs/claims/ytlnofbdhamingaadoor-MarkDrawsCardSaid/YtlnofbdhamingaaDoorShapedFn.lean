/- The modules of a digit: the reference's. -/
import Derived.Test.YtlnofbdhamingaaDoorGDraw
set_option linter.unusedVariables false
set_option linter.unusedSimpArgs false
namespace Go.Proofs.YtlnofbdhamingaaDoor
open Go.RowKit Go.Sort

def gStrs : List ByteArray := [{ data := #[49, 49, 49, 49, 48, 49, 49, 48, 49, 49, 48, 49, 49, 49, 49] }, { data := #[48, 49, 48, 49, 49, 48, 48, 49, 48, 48, 49, 48, 49, 49, 49] }, { data := #[49, 49, 49, 48, 48, 49, 49, 49, 49, 49, 48, 48, 49, 49, 49] }, { data := #[49, 49, 49, 48, 48, 49, 49, 49, 49, 48, 48, 49, 49, 49, 49] }, { data := #[49, 48, 49, 49, 48, 49, 49, 49, 49, 48, 48, 49, 48, 48, 49] }, { data := #[49, 49, 49, 49, 48, 48, 49, 49, 49, 48, 48, 49, 49, 49, 49] }, { data := #[49, 49, 49, 49, 48, 48, 49, 49, 49, 49, 48, 49, 49, 49, 49] }, { data := #[49, 49, 49, 48, 48, 49, 48, 49, 48, 48, 49, 48, 48, 49, 48] }, { data := #[49, 49, 49, 49, 48, 49, 49, 49, 49, 49, 48, 49, 49, 49, 49] }, { data := #[49, 49, 49, 49, 48, 49, 49, 49, 49, 48, 48, 49, 49, 49, 49] }]
def gS (d : Nat) : ByteArray := gStrs.getD d ByteArray.empty
theorem gS_size : ∀ d, d < 10 → (gS d).size = 15 := by decide
theorem gS_list : ((List.range 10).all fun d => (List.range 15).all fun k => ((((gS d).data.toList.getD k 0).toNat : Int) - 48) % 256 == ((glyphR d).getD k 0 : Nat)) = true := by kernel_rfl
theorem gS_at (d k : Nat) (hd : d < 10) (hk : k < 15) (h : k < (gS d).size) : ((((gS d)[k]'h).toNat : Int) - 48) % 256 = ((glyphR d).getD k 0 : Nat) := by
  have h1 := List.all_eq_true.1 (List.all_eq_true.1 gS_list d (List.mem_range.2 hd)) k (List.mem_range.2 hk)
  rw [beq_iff_eq] at h1
  rw [← h1, List.getD_eq_getElem?_getD, List.getElem?_eq_getElem (by rw [Array.length_toList]; exact h)]
  rfl
set_option maxRecDepth 100000 in
set_option maxHeartbeats 4000000 in
theorem r_glyphs (w : World) : Calls Tryd.prog 131 #[] w fun e w' => e = .returned (.slice (some ⟨w.heap.size, 0, none⟩) 10 10) ∧ w' = w.alloc (.cells (gStrs.map .string).toArray 9) := by
  go_enter Tryd.func131, Tryd.ntmps131
  go_wp2
  go_ret
  exact ⟨rfl, rfl⟩
theorem glyphR_take {d k : Nat} (hd : d < 10) (hk : k < 15) : (glyphR d).take (k + 1) = (glyphR d).take k ++ [(glyphR d).getD k 0] := by
  have h := glyphR_length d hd
  rw [List.take_succ_eq_append_getElem (by omega), List.getD_eq_getElem?_getD, List.getElem?_eq_getElem (by omega)]
  rfl
set_option maxRecDepth 100000 in
set_option maxHeartbeats 8000000 in
theorem r_Shaped (d : Nat) (hd : d < 10) (w : World) : Calls Tryd.prog 119 #[.int .i64 (d : Int)] w (OwnBytes (glyphR d) w) := by
  obtain ⟨i0, hi, hz0, hz1, hz2⟩ := info_parts3 info_byte
  have r0 : (w.alloc (.cells (gStrs.map .string).toArray 9)).cell? ⟨w.heap.size, d, none⟩ = some (.string (gS d)) := by
    rw [(owns_lit w (gStrs.map .string) 9 10 1 w.heap.size (Nat.le_refl _) (by unfold maxLen; omega) rfl).cellAt d (by omega), List.getElem?_map]
    unfold gS
    rw [List.getD_eq_getElem?_getD, List.getElem?_eq_getElem (show d < gStrs.length by exact hd)]
    rfl
  have HB := Lib.hid (gS_at d)
  have hsz := gS_size d hd
  obtain ⟨gs, hgs⟩ : ∃ gs, gS d = gs := ⟨_, rfl⟩
  rw [hgs] at r0 HB hsz
  have hE0 := Lib.hid ((Ext.refl w).alloc (.cells (gStrs.map .string).toArray 9))
  obtain ⟨w0, hw0⟩ : ∃ w0, w.alloc (.cells (gStrs.map .string).toArray 9) = w0 := ⟨_, rfl⟩
  rw [hw0] at r0 hE0
  have K := Lib.hid (hw0 ▸ r_glyphs w)
  have HL := Lib.hid (glyphR_length d hd)
  have HS := Lib.hid hsz
  clear hgs hw0 hsz
  go_enter Tryd.func119, Tryd.ntmps119
  go_wp2_with (go_at_call 131; (with_reducible refine K.out.mono ?_); rintro E w1 ⟨rfl, rfl⟩)
  go_loopw [3, 5] (fun o i wr => ∃ k : Nat, k ≤ 15 ∧ i = .int .i64 (k : Int) ∧ Ext w wr ∧ Hid (wr.ownsRow w.heap.size 5 1 o k (bytesL ((glyphR d).take k)))) (fun _ i _ => 15 - (intOf i).toNat)
  case atStart => exact ⟨0, by omega, rfl, hE0.out, Lib.hid ⟨rfl, .inl ⟨rfl, rfl⟩⟩⟩
  case round =>
    obtain ⟨k, hk, rfl, hE, hO⟩ := hrel
    have hsz := HS.out
    by_cases hkl : k < 15
    · have hb := HB.out k hd hkl (by omega)
      go_wp2_with (first
        | (at_builtin; refine wpList_append_sl rfl _ _ 22 rfl w.heap.size 5 i0 (.int .u8 0) 1 1 Tryd.underlying22 hi hz0 hz1 hz2 rfl (by omega) u3 k (bytesL ((glyphR d).take k)) rfl (owns_ext hO.out ((Ext.refl _).alloc _)) _ 1 [.int .u8 ((glyphR d).getD k 0 : Nat)] rfl (SlAt.of_owns (owns_lit wr [.int .u8 ((glyphR d).getD k 0 : Nat)] 5 1 1 0 (Nat.zero_le _) (by unfold maxLen; omega) rfl)) (bytes_oneCell' [(glyphR d).getD k 0]) (by unfold maxLen; omega) (by omega) ((hE.alloc _).size) ?_; intro v' w' ho hg))
      go_roundw
      case rel => exact ⟨k + 1, by omega, by go_num, (hE.alloc _).grown hg (fun g hk => (owns_block hO.out g hk).1), Lib.hid (by
        rw [glyphR_take hd hkl, show bytesL (List.take k (glyphR d) ++ [(glyphR d).getD k 0]) = bytesL (List.take k (glyphR d)) ++ [.int .u8 ((glyphR d).getD k 0 : Nat)] by simp [bytesL]]
        exact ho)⟩
      case measure => simp [intOf]; omega
    · obtain rfl : k = 15 := by omega
      go_wp2
      go_ret
      refine ⟨_, rfl, ?_, hE⟩
      have h := hO.out
      rw [List.take_of_length_le (by rw [HL.out]; exact Nat.le_refl _)] at h
      rw [HL.out]
      exact h
end Go.Proofs.YtlnofbdhamingaaDoor
