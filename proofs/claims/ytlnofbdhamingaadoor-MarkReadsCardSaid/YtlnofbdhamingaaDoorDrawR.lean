/- The image of a mark: the reference's walk. -/
import Derived.Test.YtlnofbdhamingaaDoorGPaint
import Derived.Test.YtlnofbdhamingaaDoorPaintedC
set_option linter.unusedVariables false
set_option linter.unusedSimpArgs false
namespace Go.Proofs.YtlnofbdhamingaaDoor
open Go.RowKit Go.Sort

/-- a row of four numbers and more does not lie in a block of three cells -/
theorem pix_ne {w : World} {v : Value} {l : List Int} {b e : Nat} {fr : Nat × Nat} {x y z : Value} (h : IntsAt w v l) (hl : 4 ≤ l.length) (hb : w.heap[b]? = some (.cells #[x, y, z] e fr)) : ∀ k, v.ownBlock = some k → k ≠ b := by
  rintro k hk rfl
  obtain ⟨ao, cap, rfl, -, hc⟩ := h.form
  obtain ⟨b', off, rfl, c⟩ := hc 3 (by omega)
  have e : b' = k := Option.some.inj hk
  subst e
  simp [World.cell?, hb] at c
theorem pix_put {w : World} {l : List Int} {b e : Nat} {fr : Nat × Nat} {x y z x' y' z' : Value} {v : Value} (h : IntsAt w v l) (hl : 4 ≤ l.length) (hb : w.heap[b]? = some (.cells #[x, y, z] e fr)) :
    IntsAt (((w.setCell ⟨b, 0, none⟩ x').setCell ⟨b, 1, none⟩ y').setCell ⟨b, 2, none⟩ z') v l :=
  SlAt.gb h (gb_trans (gb_trans (gb_set _ b _ _) (gb_set _ _ _ _)) (gb_set _ _ _ _)) (fun k hk h9 => pix_ne h hl hb k hk (Option.some.inj h9))
set_option maxRecDepth 100000 in
set_option maxHeartbeats 8000000 in
theorem r_Draw (v : Value) (l : List Nat) (s ink paper : Int) (w : World) (hv : BytesAt w v l) (hl : l.length ≤ maxLen) :
    Calls Tryd.prog 35 #[v, .int .i64 s, .int .i64 ink, .int .i64 paper] w (ImgErr (drawI l s ink paper) w) := by
  have HV := Lib.hid hv
  have K1 := Lib.hid (fun w' (h : Ext w w') => r_Message v l w' (hv.ext h) hl)
  have K2 := Lib.hid (fun w' => r_paint s ink paper w')
  have HN := Lib.hid (fun h => drawI_no (l := l) (s := s) (ink := ink) (paper := paper) h)
  have HY := Lib.hid (fun (S : Nat) h hs => drawI_yes (l := l) (s := s) (ink := ink) (paper := paper) (S := S) h hs)
  unfold drawOk at HN HY
  obtain ⟨-, ao, cap, rfl, -⟩ := hv
  obtain ⟨m, hm⟩ : ∃ b, isMessage l = b := ⟨_, rfl⟩
  rw [hm] at K1
  simp only [hm] at HN HY
  have HM := Lib.hid hm
  clear hm
  cases m
  case false =>
    have HI := Lib.hid (HN.out (fun h => by have := h.1; cases this))
    go_enter Tryd.func35, Tryd.ntmps35
    go_wp2_with (go_at_call 39; (with_reducible refine (K1.out _ ((Ext.refl w).alloc _)).mono ?_); rintro E w1 ⟨rfl, h1⟩; have hb := h1.blk (heap_alloc_new w _); obtain ⟨⟨c0, c1, c2⟩, f0, f1, f2⟩ := run_3 hb; have zb := World.block_lt_of_cell? _ _ c0; simp only at zb)
    have st := store_3 (v0 := .int .i64 0) (v1 := .int .i64 0) (v2 := .slice none 0 0) hb
    refine bodyPost_ret (results_row2 rfl _ _ _ _ _ (0, 0) _ rfl st.1 Tryd.underlying44 rfl (by kernel_rfl)) rfl ?_
    exact ⟨_, by rw [HI.out]; rfl, by rw [HI.out]; exact SlAt.nil _ 1, st.2.2 w (Nat.le_refl _) (((Ext.refl w).alloc _).trans h1)⟩
  by_cases hc : ColOk s ink paper
  case neg =>
    have HI := Lib.hid (HN.out (fun h => hc h.2))
    rw [decide_eq_false hc] at K2
    clear hc
    go_enter Tryd.func35, Tryd.ntmps35
    go_wp2_with (first
      | (go_at_call 39; (with_reducible refine (K1.out _ ((Ext.refl w).alloc _)).mono ?_); rintro E w1 ⟨rfl, h1⟩)
      | (go_at_call 78; (with_reducible refine (K2.out _).mono ?_); rintro E w2 ⟨rfl, h2⟩; have hb := (h1.trans h2).blk (heap_alloc_new w _); obtain ⟨⟨c0, c1, c2⟩, f0, f1, f2⟩ := run_3 hb; have zb := World.block_lt_of_cell? _ _ c0; simp only at zb))
    have st := store_3 (v0 := .int .i64 0) (v1 := .int .i64 0) (v2 := .slice none 0 0) hb
    refine bodyPost_ret (results_row2 rfl _ _ _ _ _ (0, 0) _ rfl st.1 Tryd.underlying44 rfl (by kernel_rfl)) rfl ?_
    exact ⟨_, by rw [HI.out]; rfl, by rw [HI.out]; exact SlAt.nil _ 1, st.2.2 w (Nat.le_refl _) ((((Ext.refl w).alloc _).trans h1).trans h2)⟩
  obtain ⟨S, rfl⟩ := Int.eq_ofNat_of_zero_le (show 0 ≤ s by have := hc.1; omega)
  have hS : 1 ≤ S ∧ S ≤ 2 := by have := hc.1; omega
  have HI := Lib.hid (HY.out S ⟨rfl, hc⟩ rfl)
  rw [decide_eq_true hc] at K2
  have hms := message_syms HM.out
  have K3 := Lib.hid (fun w' (h : Ext w w') => r_Encoded _ l w' (HV.out.ext h) (by have := hms.2; omega) hms.1)
  have HEL := Lib.hid (encR_length l)
  have HES := encR_lt hms.1
  obtain ⟨wd, hwd⟩ : ∃ x, encR l = x := ⟨_, rfl⟩
  rw [hwd] at HI K3 HEL HES
  have K4 := Lib.hid (fun v' w' (h : BytesAt w' v' wd) => r_Marked v' wd w' h HEL.out HES)
  have K5 := Lib.hid (fun v' w' (h : BytesAt w' v' (markedR wd 64)) => r_Painted 8 8 S (8 * S) (8 * S) (8 * S * (8 * S)) ink paper (markedR wd 64) v' w' h (by rw [markedR_length]) hS ⟨by omega, by omega⟩ ⟨by omega, by omega⟩ rfl rfl rfl (Nat.le_trans (Nat.mul_le_mul (show 8 * S ≤ 16 by omega) (show 8 * S ≤ 16 by omega)) (by omega)))
  obtain ⟨N8, hN8⟩ : ∃ n, 8 * S = n := ⟨_, rfl⟩
  rw [hN8] at K5 HI
  obtain ⟨np, hnp⟩ : ∃ n, N8 * N8 = n := ⟨_, rfl⟩
  rw [hnp] at K5 HI
  have HPL := Lib.hid (paintedR_length (markedR wd 64) N8 S ink paper np)
  obtain ⟨px, hpx⟩ : ∃ p, paintedR (markedR wd 64) N8 S ink paper np = p := ⟨_, rfl⟩
  rw [hpx] at K5 HI HPL
  unfold imgVal at K5
  dsimp only at K5
  have K5' : Hid (∀ v' w', BytesAt w' v' (markedR wd 64) → Calls Tryd.prog 79 #[v', .int .i64 8, .int .i64 (S : Int), .int .i64 ink, .int .i64 paper] w' fun e w'' => ∃ v9, e = .returned (.agg #[.int .i64 (N8 : Int), .int .i64 (N8 : Int), v9]) ∧ IntsAt w'' v9 px ∧ Ext w' w'') := K5
  have HX := Lib.hid (And.intro hN8 (And.intro hnp (And.intro hpx hwd)))
  clear K5 hc hms hwd HN HY HES hN8 hnp hpx
  unfold OwnBytes at K3 K4
  go_enter Tryd.func35, Tryd.ntmps35
  go_wp2_with (first
      | (go_at_call 39; (with_reducible refine (K1.out _ ((Ext.refl w).alloc _)).mono ?_); rintro E w1 ⟨rfl, h1⟩)
      | (go_at_call 78; (with_reducible refine (K2.out _).mono ?_); rintro E w2 ⟨rfl, h2⟩; have hE2 : Ext w w2 := (((Ext.refl w).alloc _).trans h1).trans h2; have hb2 := (h1.trans h2).blk (heap_alloc_new w (Obj.cells #[.int .i64 0, .int .i64 0, .slice none 0 0] 44)))
      | (go_at_call 59; (with_reducible refine (K3.out _ hE2).mono ?_); rintro E w3 ⟨v3, rfl, o3, h3⟩; have b3 : BytesAt w3 v3 wd := SlAt.of_owns o3)
      | (go_at_call 80; (with_reducible refine (K4.out _ _ b3).mono ?_); rintro E w4 ⟨v4, rfl, o4, h4⟩; have b4 : BytesAt w4 v4 (markedR wd 64) := SlAt.of_owns o4)
      | (go_at_call 79; (with_reducible refine (K5'.out _ _ b4).mono ?_); rintro E w5 ⟨v5, rfl, i5, h5⟩; obtain ⟨-, po, pc, rfl, -⟩ := id i5; have hE5 := ((hE2.trans h3).trans h4).trans h5; have hb := ((h3.trans h4).trans h5).blk hb2; obtain ⟨⟨c0, c1, c2⟩, f0, f1, f2⟩ := run_3 hb; have zb := World.block_lt_of_cell? _ _ c0; simp only at zb))
  have st := store_3 (v0 := .int .i64 (N8 : Int)) (v1 := .int .i64 (N8 : Int)) (v2 := .slice po px.length pc) hb
  refine bodyPost_ret (results_row2 rfl _ _ _ _ _ (0, 0) _ rfl st.1 Tryd.underlying44 rfl (by kernel_rfl)) rfl ?_
  have h64 : 4 ≤ px.length := by
    rw [HPL.out, ← HX.out.2.1, ← HX.out.1]
    exact Nat.le_trans (show 4 ≤ 8 * 8 by omega) (Nat.mul_le_mul (show 8 ≤ 8 * S by omega) (show 8 ≤ 8 * S by omega))
  exact ⟨.slice po px.length pc, by rw [HI.out]; rfl, by rw [HI.out]; exact pix_put i5 h64 hb, st.2.2 w (Nat.le_refl _) hE5⟩
end Go.Proofs.YtlnofbdhamingaaDoor
