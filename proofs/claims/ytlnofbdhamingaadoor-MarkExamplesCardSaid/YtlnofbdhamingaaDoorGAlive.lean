/- Joined from the parts AliveA, AliveB. -/
import Derived.Test.YtlnofbdhamingaaDoorGRead
import Derived.Test.YtlnofbdhamingaaDoorGPrint
import Derived.Test.YtlnofbdhamingaaDoorGPaint
import Derived.Test.YtlnofbdhamingaaDoorGLine
import Derived.Test.YtlnofbdhamingaaDoorGField
import Derived.Test.YtlnofbdhamingaaDoorGPoly
set_option linter.unusedVariables false
set_option linter.unusedSimpArgs false
/- Small functions of the laws: lists that are equal, powers, the wide contrast, readings that are equal. -/
namespace Go.Proofs.YtlnofbdhamingaaDoor
open Go.RowKit Go.Sort

def pwL : List Nat := [1, 2, 4, 8, 3, 6, 12, 11, 5, 10, 7, 14, 15, 13, 9]
theorem pwL_enc : encR [0, 1] = pwL := by decide
set_option maxRecDepth 100000 in
set_option maxHeartbeats 1000000 in
theorem l_powers (w : World) : Calls Tryd.prog 50 #[] w (OwnBytes pwL w) := by
  go_enter Tryd.func50, Tryd.ntmps50
  go_wp2
  go_ret
  exact ⟨_, rfl, owns_lit w (bytesL pwL) 5 15 1 w.heap.size (Nat.le_refl _) (by unfold maxLen; omega) rfl, (Ext.refl w).alloc _⟩
set_option maxHeartbeats 1000000 in
theorem l_is (v1 v2 : Value) (l : List Nat) (w : World) (h1 : BytesAt w v1 l) (h2 : BytesAt w v2 l) : Calls Tryd.prog 49 #[v1, .int .i64 0, v2] w fun e w' => e = .returned (.bool true) ∧ Ext w w' := by
  have K := Lib.hid (r_SameBytes_eq v1 v2 l w h1 h2)
  obtain ⟨a1, c1, rfl, -⟩ := h1.form
  obtain ⟨a2, c2, rfl, -⟩ := h2.form
  clear h1 h2
  go_enter Tryd.func49, Tryd.ntmps49
  go_wp2_with (go_at_call 24; (with_reducible refine K.out.mono ?_); rintro E w1 ⟨rfl, h1⟩)
  go_ret
  exact ⟨rfl, h1⟩
set_option maxHeartbeats 1000000 in
theorem l_wide (w : World) : Calls Tryd.prog 48 #[] w fun e w' => e = .returned (conVal ⟨50, 100⟩) ∧ Ext w w' := by
  go_enter Tryd.func48, Tryd.ntmps48
  go_wp2
  refine bodyPost_ret (results_row1 rfl _ _ _ _ _ (0, 0) _ rfl (one_first w _) Tryd.underlying46 rfl (by kernel_rfl)) rfl ?_
  exact ⟨rfl, (Ext.refl w).alloc _⟩
set_option maxHeartbeats 1000000 in
theorem r_SameReading (v1 v2 : Value) (r : Rd) (w : World) (h1 : BytesAt w v1 r.msg) (h2 : BytesAt w v2 r.msg) : Calls Tryd.prog 32 #[rdV v1 r, rdV v2 r] w fun e w' => e = .returned (.bool true) ∧ Ext w w' := by
  have K := Lib.hid (fun w' (h : Ext w w') => r_SameBytes_eq v1 v2 r.msg w' (h1.ext h) (h2.ext h))
  obtain ⟨-, a1, c1, rfl, -⟩ := id h1
  obtain ⟨-, a2, c2, rfl, -⟩ := id h2
  clear h1 h2
  unfold rdV
  go_enter Tryd.func32, Tryd.ntmps32
  go_wp2_with (go_at_call 24; (with_reducible refine (K.out _ (((Ext.refl w).alloc _).alloc _)).mono ?_); rintro E w1 ⟨rfl, h1⟩; obtain ⟨⟨c0, c1, c2, c3⟩, -⟩ := run_4 (h1.blk (heap_alloc2_old w _ _)); obtain ⟨⟨d0, d1, d2, d3⟩, -⟩ := run_4 (h1.blk (heap_alloc2_new w _ _)))
  go_ret
  exact ⟨rfl, (((Ext.refl w).alloc _).alloc _).trans h1⟩
end Go.Proofs.YtlnofbdhamingaaDoor

/- What the examples of 'alive' come to: by computation. -/
namespace Go.Proofs.YtlnofbdhamingaaDoor
open Go.RowKit Go.Sort

def xL : List Nat := [0, 0, 0, 0, 0, 0, 12, 11, 5, 10, 7, 14, 15, 13, 9]
def yL : List Nat := [0, 0, 0, 0, 0, 0, 0, 11, 5, 10, 7, 14, 15, 13, 9]
def noneL : List Bool := List.replicate 15 false
theorem fits_iff {w : List Nat} {er : List Bool} {k : Nat} {M : List Nat} : FitsW w er k M ↔ Syms M ∧ M.length = k ∧ 2 * errK M w er er.length + goneK er er.length ≤ 15 - k := by
  unfold FitsW goneN
  rw [errN_eq]
theorem dec_x : decR xL noneL 2 = some [0, 1] ∧ errN [0, 1] xL noneL = 6 := by
  have hr : RecvOk xL noneL 2 := ⟨by unfold Syms xL; decide, rfl, rfl, by omega, by omega⟩
  exact ⟨decR_some hr (fits_iff.2 ⟨by unfold Syms; decide, rfl, by decide⟩), by rw [errN_eq]; decide⟩
theorem dec_y : decR yL noneL 2 = none := decR_none fun M hM => by
  obtain ⟨h1, h2, h3⟩ := fits_iff.1 hM
  obtain ⟨a, b, rfl⟩ : ∃ a b, M = [a, b] := by
    match M, h2 with
    | [a, b], _ => exact ⟨a, b, rfl⟩
  have ha := h1 a (by simp)
  have hb := h1 b (by simp)
  have key : ∀ a b : Fin 16, ¬ (2 * errK [a.1, b.1] yL noneL noneL.length + goneK noneL noneL.length ≤ 15 - 2) := by decide +kernel
  exact key ⟨a, ha⟩ ⟨b, hb⟩ h3
theorem decA_x : decA xL noneL 2 = (([0, 1], 6), 0) := by
  rw [decA_def, if_pos ⟨rfl, by decide, rfl, by omega, by omega⟩]
  rw [show (2 : Int).toNat = 2 from rfl, dec_x.1]
  show (([0, 1], errN [0, 1] xL noneL), (0 : Int)) = _
  rw [dec_x.2]
theorem decA_y : decA yL noneL 2 = (([], 0), 60) := by
  rw [decA_def, if_pos ⟨rfl, by decide, rfl, by omega, by omega⟩]
  rw [show (2 : Int).toNat = 2 from rfl, dec_y]
theorem mul_28 : mulR 2 8 = (3, 0) := by decide
theorem inv_2 : invR 2 = (9, 0) := by decide
theorem enc_01 : encodeR [0, 1] = (some pwL, 0) := by decide
/-- the mark of the message 0, drawn small -/
def m0I : Img := ⟨8, 8, paintedR (markedR (encR [0]) 64) 8 1 10 200 64⟩
theorem draw_0 : drawI [0] 1 10 200 = (m0I, 0) := drawI_yes (S := 1) ⟨by decide, by decide⟩ rfl
theorem m0_cam : SqCam 1 m0I := ⟨rfl, rfl, ⟨by decide +kernel, by decide +kernel⟩⟩
theorem m0_seen : seenR m0I.pix 8 8 1 50 100 = markedR (encR [0]) 64 := by decide +kernel
theorem m0_word : wordK (markedR (encR [0]) 64) 60 = List.replicate 15 0 ∧ eraK (markedR (encR [0]) 64) 60 = noneL := by decide +kernel
theorem read_0 : readI (turnI m0I) 1 50 100 1 = some ⟨[0], 3, 0, 0⟩ := by
  have h := read_turned (S := 1) ⟨by omega, by omega⟩ m0_cam 50 100 (k := 1) m0_seen (by decide) (by decide) (by decide) (by decide) (n := 1) (by omega)
  have hf : FitsW (wordK (markedR (encR [0]) 64) 60) (eraK (markedR (encR [0]) 64) 60) 1 [0] := by
    rw [m0_word.1, m0_word.2]
    exact fits_iff.2 ⟨by unfold Syms; decide, rfl, by decide⟩
  rw [cand_of (by omega) (by omega) (by decide) hf] at h
  rw [show turnI m0I = turnN 1 m0I from rfl, h, m0_word.1, m0_word.2]
  rw [show errN [0] (List.replicate 15 0) noneL = 0 by rw [errN_eq]; decide]
  rfl
theorem readA_0 : readA (turnI m0I) ⟨50, 100⟩ 1 = (⟨[0], 3, 0, 0⟩, 0) := by
  have hc := turn_cam (S := 1) ⟨by omega, by omega⟩ m0_cam
  rw [readA_def, if_pos hc.2.2, if_pos ⟨⟨by decide, by decide, by decide⟩, by omega, by omega⟩, if_pos ⟨by rw [hc.1, hc.2.1], .inl hc.1⟩]
  rw [show ((turnI m0I).w / 8).toNat = 1 by rw [hc.1]; rfl, show (1 : Int).toNat = 1 from rfl]
  rw [read_0]
def s17 : ByteArray := { data := #[49, 55] }
def p17 : Img := ⟨7, 5, paintedR (printR [1, 7] 7) 7 1 10 200 35⟩
theorem print_17 : printI s17 1 10 200 = (p17, 0) := by
  rw [printI_def, if_pos (by decide), if_pos (by decide), if_pos (by decide)]
  rfl
theorem line_17 : lineI p17 1 ⟨50, 100⟩ 7 = ([49, 63], 0) := by decide +kernel
end Go.Proofs.YtlnofbdhamingaaDoor
