/- The image of a mark, with the row's owner: the program's walk. -/
import Derived.Test.YtlnofbdhamingaaDoorGPaint
set_option linter.unusedVariables false
set_option linter.unusedSimpArgs false
namespace Go.Proofs.YtlnofbdhamingaaDoor
open Go.RowKit Go.Sort

def ImgOwn (r : Img × Int) (w : World) (e : Ending) (w' : World) : Prop := ∃ v', e = .returned (.tuple #[imgVal r.1 v', .int .i64 r.2]) ∧ w'.ownsRow w.heap.size 3 1 v' r.1.pix.length (ints r.1.pix) ∧ Ext w w'
set_option maxRecDepth 100000 in
set_option maxHeartbeats 8000000 in
theorem c_DrawO (v : Value) (l : List Nat) (s ink paper : Int) (w : World) (hT : Tabs w) (hv : BytesAt w v l) (hl : l.length ≤ maxLen) (hok0 : drawOk l s ink paper) :
    Calls Tryd.prog 34 #[v, .int .i64 s, .int .i64 ink, .int .i64 paper] w (ImgOwn (drawI l s ink paper) w) := by
  obtain ⟨i0, hi, hz0, hz1, hz2⟩ := info_parts3 info_byte
  have HOK := Lib.hid hok0
  clear hok0
  have HT := Lib.hid hT
  have HV := Lib.hid hv
  have K1 := Lib.hid (fun w' (h : Ext w w') => c_message v l w' (hv.ext h) hl)
  have K2 := Lib.hid (fun w' => c_colours s ink paper w')
  have HN := Lib.hid (fun h => drawI_no (l := l) (s := s) (ink := ink) (paper := paper) h)
  have HY := Lib.hid (fun (S : Nat) h hs => drawI_yes (l := l) (s := s) (ink := ink) (paper := paper) (S := S) h hs)
  unfold drawOk at HN HY
  obtain ⟨-, ao, cap, rfl, -⟩ := hv
  obtain ⟨m, hm⟩ : ∃ b, isMessage l = b := ⟨_, rfl⟩
  rw [hm] at K1
  simp only [hm] at HN HY
  have HM := Lib.hid hm
  clear hT hm
  cases m
  case false => exact absurd (HM.out.symm.trans HOK.out.1) Bool.false_ne_true
  by_cases hc : ColOk s ink paper
  case neg => exact absurd HOK.out.2 hc
  obtain ⟨S, rfl⟩ := Int.eq_ofNat_of_zero_le (show 0 ≤ s by have := hc.1; omega)
  have hS : 1 ≤ S ∧ S ≤ 2 := by have := hc.1; omega
  have HI := Lib.hid (HY.out S ⟨rfl, hc⟩ rfl)
  rw [decide_eq_true hc] at K2
  have hms := message_syms HM.out
  have K3 := Lib.hid (fun w' (h : Ext w w') => c_encode _ l w' (HT.out.ext h) (HV.out.ext h) (by have := hms.2; omega) hms.1)
  have K4 := Lib.hid (fun w' => c_data w')
  have HEL := Lib.hid (encR_length l)
  have HES := Lib.hid (show ∀ i, i < 15 → (encR l).getD i 0 < 16 from fun i hi => by
    have e : (encR l).getD i 0 = gval l (powN i) := by simp [encR, List.getD_eq_getElem?_getD, List.getElem?_map, List.getElem?_range hi]
    rw [e]
    exact gval_lt hms.1 (pow_lt hi))
  obtain ⟨wd, hwd⟩ : ∃ x, encR l = x := ⟨_, rfl⟩
  rw [hwd] at HI K3 HEL HES
  clear hc hms hwd HN HY
  unfold OwnBytes at K3
  go_enter Tryd.func34, Tryd.ntmps34
  go_wp2_with (first
      | (go_at_call 57; (with_reducible refine (K1.out _ ((Ext.refl w).alloc _)).mono ?_); rintro E w1 ⟨rfl, h1⟩)
      | (go_at_call 76; (with_reducible refine (K2.out _).mono ?_); rintro E w2 ⟨rfl, h2⟩; have hA2 := Lib.hid (show At w2 [(w.heap.size, .cells #[.int .i64 0, .int .i64 0, .slice none 0 0] 44)] from ⟨(h1.trans h2).blk (heap_alloc_new w _), trivial⟩); have hE2 : Ext w w2 := (((Ext.refl w).alloc _).trans h1).trans h2)
      | (at_make; refine wpList_make_full _ rfl _ _ 22 rfl w2.heap.size 5 i0 (.int .u8 0) 1 Tryd.underlying22 hi hz0 hz1 .i64 .i64 _ _ 64 rfl rfl rfl rfl (by rw [hz2]; omega) (by unfold maxLen; omega) (Nat.le_refl _) ?_; intro w3 ho3 hg3; rw [made_zero (List.replicate 64 0) 64, rowK_zero, show List.replicate 64 (Value.int .u8 0) = bytesL (List.replicate 64 0) by simp [bytesL]] at ho3; have h3 : Ext w2 w3 := ext_of_grownNone hg3; have HO3 := Lib.hid ho3; clear ho3 hg3; have m0 : w3.cell? ⟨w2.heap.size, 0, none⟩ = some (.int .u8 0) := (by rw [HO3.out.cellAt 0 (by omega)]; rfl); have m1 : w3.cell? ⟨w2.heap.size, 56, none⟩ = some (.int .u8 0) := (by rw [HO3.out.cellAt 56 (by omega)]; rfl); have m2 : w3.cell? ⟨w2.heap.size, 63, none⟩ = some (.int .u8 0) := (by rw [HO3.out.cellAt 63 (by omega)]; rfl); have n0 := HO3.out.frozenAt 0; have n1 := HO3.out.frozenAt 56; have n2 := HO3.out.frozenAt 63))
  obtain ⟨G, hG⟩ : ∃ G, w2.heap.size = G := ⟨_, rfl⟩
  have hE3 := hE2.trans h3
  have hA3 := At.ext h3 hA2.out
  rw [hG] at HO3 m0 m1 m2 n0 n1 n2 ⊢
  obtain ⟨W4, hW4⟩ : ∃ W4, ((w3.setCell ⟨G, 0, none⟩ (.int .u8 1)).setCell ⟨G, 56, none⟩ (.int .u8 1)).setCell ⟨G, 63, none⟩ (.int .u8 1) = W4 := ⟨_, rfl⟩
  have hgw : w.heap.size < G := by rw [← hG]; exact At.lt hA2.out 0 rfl
  have hG4 : w3.grownBy W4 (some G) := by rw [← hW4]; exact gb_trans (gb_trans (gb_set _ _ _ _) (gb_set _ _ _ _)) (gb_set _ _ _ _)
  have hM4 : W4.ownsRow G 5 1 (.slice (some ⟨G, 0, none⟩) 64 64) 64 (bytesL (drawK wd 0)) := by
    have h := (((HO3.out.stored 0 (.int .u8 ((1 : Nat) : Int))).1.stored 56 (.int .u8 ((1 : Nat) : Int))).1.stored 63 (.int .u8 ((1 : Nat) : Int))).1
    rw [bytesL_set, bytesL_set, bytesL_set, drawK_zero] at h
    rw [← hW4]
    exact h
  have HE4 := Lib.hid (hE3.gb hG4 (by omega))
  have HA4 := Lib.hid (At.grown hG4 hA3 (fun k hk h9 => by simp at hk; have := Option.some.inj h9; omega))
  have HM4 := Lib.hid hM4
  have HGW := Lib.hid hgw
  have hGz : G < W4.heap.size := (hM4.lt G rfl).2
  rw [hW4]
  clear hM4 hG4 hW4 hA3 hE3 HO3 m0 m1 m2 n0 n1 n2 h3 hA2 hE2 h1 h2 hG K1 K2
  go_wp2_with (first
      | (go_at_call 58; (with_reducible refine (K3.out _ HE4.out).mono ?_); rintro E w5 ⟨v5, rfl, h5, h5'⟩)
      | (go_at_call 71; (with_reducible refine (K4.out _).mono ?_); rintro E w6 ⟨v6, rfl, h6, h6'⟩; obtain ⟨-, do_, dc, rfl, -⟩ := SlAt.of_owns h6))
  have hd60 := dataK_full
  rw [hd60] at h6 ⊢
  have HV5 := Lib.hid (show BytesAt w6 v5 wd from (show BytesAt w5 v5 wd from SlAt.of_owns h5).ext h6')
  have HN5 := Lib.hid (show ∀ k, v5.ownBlock = some k → some k ≠ some G from fun k hk h9 => by have := (h5.lt k hk).1; have := Option.some.inj h9; omega)
  have HV6 := Lib.hid (show IntsAt w6 (.slice do_ 60 dc) (dataK 64) from by unfold IntsAt; rw [hd60]; exact SlAt.of_owns h6)
  have HN6 := Lib.hid (show ∀ k, (Value.slice do_ 60 dc).ownBlock = some k → some k ≠ some G from fun k hk h9 => by have := (h6.lt k hk).1; have := Option.some.inj h9; have := h5'.size; omega)
  have hE56 := h5'.trans h6'
  have HE6 := Lib.hid (HE4.out.trans hE56)
  have HA6 := Lib.hid (At.ext hE56 HA4.out)
  have HM6 := Lib.hid (owns_ext HM4.out hE56)
  obtain ⟨vo, vc, hv5⟩ : ∃ vo vc, v5 = .slice vo 15 vc := by
    obtain ⟨-, vo, vc, h, -⟩ := HV5.out
    exact ⟨vo, vc, by rw [h, HEL.out]⟩
  subst hv5
  clear h5 h6 h5' h6' hE56 HE4 HA4 HM4 hd60 hGz
  go_loopw [36] (fun ii wi => ∃ t : Nat, t ≤ 60 ∧ ii = .int .i64 (t : Int) ∧ Hid (w6.grownBy wi (some G)) ∧ Hid (wi.ownsRow G 5 1 (.slice (some ⟨G, 0, none⟩) 64 64) 64 (bytesL (drawK wd t)))) (fun ii _ => 60 - (intOf ii).toNat)
  case atStart => exact ⟨0, Nat.zero_le _, rfl, Lib.hid (World.grownBy.refl _ _), HM6⟩
  case round =>
    clear HM6
    obtain ⟨t, ht, rfl, hB, hM⟩ := hrel
    by_cases ht60 : t < 60
    · have hda := atD_lt ht60
      have HS := Lib.hid (drawK_set (w := wd) ht60)
      obtain ⟨db, df, rfl, c0⟩ : ∃ b off, do_ = some ⟨b, off, none⟩ ∧ wr.cell? ⟨b, off + t, none⟩ = some (.int .i64 ((atD t : Nat) : Int)) := by
        have h := (show IntsAt wr (.slice do_ 60 dc) (dataK 64) from SlAt.gb HV6.out hB.out HN6.out)
        obtain ⟨ao2, cap2, he9, -, hc9⟩ := h.form
        injection he9 with e1 _ e2
        subst e1
        obtain ⟨b, off, hb, hc⟩ := hc9 t (by rw [dataK_full]; exact ht60)
        refine ⟨b, off, hb, ?_⟩
        rw [hc, dataK_atD]
        simp [List.getD_eq_getElem?_getD, List.getElem?_range ht60]
      have ha : t / 4 < 15 := by omega
      obtain ⟨wb, wf, rfl, c1⟩ : ∃ b off, vo = some ⟨b, off, none⟩ ∧ wr.cell? ⟨b, off + t / 4, none⟩ = some (.int .u8 ((wd.getD (t / 4) 0 : Nat) : Int)) := by
        obtain ⟨b, off, c9, he9, h9⟩ := (HV5.out.gb hB.out HN5.out).some HEL.out (by omega)
        injection he9 with e1 _ _
        exact ⟨b, off, e1, h9 _ ha⟩
      have m0 : ∃ x, wr.cell? ⟨G, atD t, none⟩ = some (.int .u8 x) := ⟨_, by rw [hM.out.cellAt (atD t) (by omega), bytesL_get (by rw [drawK_len]; exact hda)]⟩
      obtain ⟨x0, m0⟩ := m0
      have m1 := hM.out.frozenAt (atD t)
      have hx := HES.out (t / 4) ha
      unfold bitR at HS
      obtain ⟨x, hxx⟩ : ∃ x, wd.getD (t / 4) 0 = x := ⟨_, rfl⟩
      rw [hxx] at c1 hx HS
      have t2 : (t : Int).tdiv 4 = ((t / 4 : Nat) : Int) := by rw [Int.tdiv_eq_ediv_of_nonneg (by omega)]; rfl
      have t3 : (t : Int).tmod 4 = ((t % 4 : Nat) : Int) := by rw [Int.tmod_eq_emod_of_nonneg (by omega)]; rfl
      have hr := Nat.mod_lt t (show 0 < 4 by omega)
      obtain ⟨a, haa⟩ : ∃ a, t / 4 = a := ⟨_, rfl⟩
      obtain ⟨r, hrr⟩ : ∃ r, t % 4 = r := ⟨_, rfl⟩
      rw [haa] at t2 ha c1
      rw [hrr] at t3 hr HS
      have hbit := bit_at hx hr
      obtain ⟨y, hy⟩ : ∃ y, x / 2 ^ (3 - r) % 2 = y := ⟨_, rfl⟩
      rw [hy] at hbit HS
      obtain ⟨d, hd⟩ : ∃ d, atD t = d := ⟨_, rfl⟩
      rw [hd] at hda c0 m0 m1 HS
      have HX := Lib.hid (And.intro hxx (And.intro haa (And.intro hrr (And.intro hy hd))))
      clear hxx haa hrr hy hd
      go_wp2
      refine ⟨⟨t + 1, by omega, by go_num, Lib.hid (gb_trans hB.out (gb_set _ _ _ _)), Lib.hid ?_⟩, by simp [intOf]; omega⟩
      have h := (hM.out.stored d (.int .u8 (y : Int))).1
      rw [bytesL_set, HS.out] at h
      exact h
    · obtain rfl : t = 60 := by omega
      have hMM := hM.out
      rw [drawK_full] at hMM
      have hEr := HE6.out.gb hB.out (by have := HGW.out; omega)
      have HAr := Lib.hid (At.grown hB.out HA6.out (fun k hk h9 => by simp at hk; have := Option.some.inj h9; have := HGW.out; omega))
      have HBM := Lib.hid (show BytesAt wr (.slice (some ⟨G, 0, none⟩) 64 64) (markedR wd 64) by
        unfold BytesAt
        rw [markedR_length]
        exact SlAt.of_owns hMM)
      have KP := Lib.hid (c_paint 8 8 S (8 * S) (8 * S) (8 * S * (8 * S)) ink paper (markedR wd 64) _ wr HBM.out (by rw [markedR_length]) hS ⟨by omega, by omega⟩ ⟨by omega, by omega⟩ rfl rfl rfl)
      have KP2 : Hid (Calls Tryd.prog 77 #[.slice (some ⟨G, 0, none⟩) 64 64, .int .i64 8, .int .i64 (S : Int), .int .i64 ink, .int .i64 paper] wr _) := KP
      obtain ⟨N8, hN8⟩ : ∃ n, 8 * S = n := ⟨_, rfl⟩
      rw [hN8] at KP2 HI
      obtain ⟨np, hnp⟩ : ∃ n, N8 * N8 = n := ⟨_, rfl⟩
      rw [hnp] at KP2 HI
      have HPL := Lib.hid (paintedR_length (markedR wd 64) N8 S ink paper np)
      obtain ⟨px, hpx⟩ : ∃ p, paintedR (markedR wd 64) N8 S ink paper np = p := ⟨_, rfl⟩
      rw [hpx] at KP2 HI HPL
      unfold imgVal at KP2
      dsimp only at KP2
      clear hM hMM hB hpx hN8 KP hnp
      go_wp2_with (go_at_call 77; (with_reducible refine KP2.out.mono ?_); rintro E w8 ⟨v8, rfl, h8, h9⟩; obtain ⟨-, po, pc, rfl, -⟩ := SlAt.of_owns h8; have hb := At.at (At.ext h9 HAr.out) 0 rfl; obtain ⟨⟨c0, c1, c2⟩, f0, f1, f2⟩ := run_3 hb; have zb := World.block_lt_of_cell? _ _ c0; simp only at zb)
      have st := store_3 (v0 := .int .i64 (N8 : Int)) (v1 := .int .i64 (N8 : Int)) (v2 := .slice po np pc) hb
      refine bodyPost_ret (results_row2 rfl _ _ _ _ _ (0, 0) _ rfl st.1 Tryd.underlying44 rfl (by kernel_rfl)) rfl ?_
      refine ⟨.slice po np pc, by rw [HI.out]; rfl, ?_, st.2.2 w (Nat.le_refl _) (hEr.trans h9)⟩
      rw [HI.out]
      have hwz : w.heap.size < wr.heap.size := At.lt HAr.out 0 rfl
      have h := own_set (own_set (own_set h8 hwz (o := 0) (u := .int .i64 (N8 : Int))) hwz (o := 1) (u := .int .i64 (N8 : Int))) hwz (o := 2) (u := .slice po np pc)
      have hsz := hEr.size
      show World.ownsRow _ _ _ _ _ px.length (ints px)
      rw [HPL.out]
      exact owns_base h hsz
end Go.Proofs.YtlnofbdhamingaaDoor
