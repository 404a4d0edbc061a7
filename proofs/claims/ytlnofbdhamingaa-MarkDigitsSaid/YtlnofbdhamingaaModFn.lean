/- The modules of an image: the program's and the reference's. -/
import Derived.Test.YtlnofbdhamingaaSeenFn
import Derived.Test.YtlnofbdhamingaaDigitFn
set_option linter.unusedVariables false
set_option linter.unusedSimpArgs false
namespace Go.Proofs.Ytlnofbdhamingaa
open Go.RowKit Go.Sort

/-- what both answer -/
def modulesI (m : Img) (s : Int) (c : Con) : List Nat × Int :=
  if m.Camera then (if 1 ≤ s ∧ s ≤ 2 ∧ c.Ok then (if m.w % s = 0 ∧ m.h % s = 0 then (seenR m.pix (m.w / s).toNat (m.h / s).toNat s.toNat c.lo c.hi, 0) else ([], 21)) else ([], 2)) else ([], 20)
theorem modulesI_def (m : Img) (s : Int) (c : Con) : modulesI m s c = if m.Camera then (if 1 ≤ s ∧ s ≤ 2 ∧ c.Ok then (if m.w % s = 0 ∧ m.h % s = 0 then (seenR m.pix (m.w / s).toNat (m.h / s).toNat s.toNat c.lo c.hi, 0) else ([], 21)) else ([], 2)) else ([], 20) := rfl
set_option maxRecDepth 100000 in
set_option maxHeartbeats 8000000 in
theorem c_Modules (m : Img) (v : Value) (s : Int) (c : Con) (w : World) (hv : IntsAt w v m.pix) (hl : m.pix.length ≤ maxLen) :
    Calls Try.prog 16 #[imgVal m v, .int .i64 s, conVal c] w (BytesErr (modulesI m s c) w) := by
  have K1 := Lib.hid (fun w' (h : Ext w w') => c_camera m v w' (hv.ext h) hl)
  have K2 := Lib.hid (fun w' => c_contrast c w')
  have HV := Lib.hid hv
  obtain ⟨ao, cap, rfl, -, -⟩ := hv.form
  clear hv
  obtain ⟨mw, mh, pix⟩ := m
  obtain ⟨lo, hi'⟩ := c
  have HD := Lib.hid (modulesI_def ⟨mw, mh, pix⟩ s ⟨lo, hi'⟩)
  by_cases hcm : (⟨mw, mh, pix⟩ : Img).Camera
  case neg =>
    have HN := Lib.hid hcm
    have hq : decide (⟨mw, mh, pix⟩ : Img).Camera = false := decide_eq_false hcm
    rw [hq] at K1
    unfold imgVal conVal at *
    dsimp only at *
    clear hcm hq
    have HI := Lib.hid (show modulesI ⟨mw, mh, pix⟩ s ⟨lo, hi'⟩ = ([], 20) by rw [HD.out, if_neg HN.out])
    go_enter Try.func16, Try.ntmps16
    go_wp2_with (go_at_call 22; (with_reducible refine (K1.out _ (by repeat (first | exact Ext.refl _ | assumption | refine Ext.alloc ?_ _ | refine Ext.drewN ?_ _ | refine ext_grow ?_ _ _ | refine Ext.trans ?_ (by assumption)))).mono ?_); rintro E w1 ⟨rfl, h1⟩; obtain ⟨⟨c0, c1, c2⟩, -⟩ := run_3 (h1.blk (heap_alloc2_old w _ _)); obtain ⟨⟨d0, d1⟩, -⟩ := run_2 (h1.blk (heap_alloc2_new w _ _)))
    go_ret2
    exact ⟨_, by rw [HI.out]; rfl, by rw [HI.out]; exact bytes_nil _, (by repeat (first | exact Ext.refl _ | assumption | refine Ext.alloc ?_ _ | refine Ext.drewN ?_ _ | refine ext_grow ?_ _ _ | refine Ext.trans ?_ (by assumption)))⟩
  have hq : decide (⟨mw, mh, pix⟩ : Img).Camera = true := decide_eq_true hcm
  rw [hq] at K1
  have HC := Lib.hid hcm
  clear hq
  by_cases hco : (⟨lo, hi'⟩ : Con).Ok
  case neg =>
    have HN := Lib.hid hco
    have hq : decide (⟨lo, hi'⟩ : Con).Ok = false := decide_eq_false hco
    rw [hq] at K2
    unfold imgVal conVal at *
    dsimp only at *
    clear hcm hco hq
    have HI0 := Lib.hid (show modulesI ⟨mw, mh, pix⟩ s ⟨lo, hi'⟩ = ([], 2) by rw [HD.out, if_pos HC.out, if_neg (fun h => HN.out h.2.2)])
    by_cases s1 : s < 1
    · have HI := Lib.hid (show modulesI ⟨mw, mh, pix⟩ s ⟨lo, hi'⟩ = ([], 2) by exact HI0.out)
      go_enter Try.func16, Try.ntmps16
      go_wp2_with (go_at_call 22; (with_reducible refine (K1.out _ (by repeat (first | exact Ext.refl _ | assumption | refine Ext.alloc ?_ _ | refine Ext.drewN ?_ _ | refine ext_grow ?_ _ _ | refine Ext.trans ?_ (by assumption)))).mono ?_); rintro E w1 ⟨rfl, h1⟩; obtain ⟨⟨c0, c1, c2⟩, -⟩ := run_3 (h1.blk (heap_alloc2_old w _ _)); obtain ⟨⟨d0, d1⟩, -⟩ := run_2 (h1.blk (heap_alloc2_new w _ _)))
      go_ret2
      exact ⟨_, by rw [HI.out]; rfl, by rw [HI.out]; exact bytes_nil _, (by repeat (first | exact Ext.refl _ | assumption | refine Ext.alloc ?_ _ | refine Ext.drewN ?_ _ | refine ext_grow ?_ _ _ | refine Ext.trans ?_ (by assumption)))⟩
    by_cases s2 : 2 < s
    · have HI := Lib.hid (show modulesI ⟨mw, mh, pix⟩ s ⟨lo, hi'⟩ = ([], 2) by exact HI0.out)
      go_enter Try.func16, Try.ntmps16
      go_wp2_with (go_at_call 22; (with_reducible refine (K1.out _ (by repeat (first | exact Ext.refl _ | assumption | refine Ext.alloc ?_ _ | refine Ext.drewN ?_ _ | refine ext_grow ?_ _ _ | refine Ext.trans ?_ (by assumption)))).mono ?_); rintro E w1 ⟨rfl, h1⟩; obtain ⟨⟨c0, c1, c2⟩, -⟩ := run_3 (h1.blk (heap_alloc2_old w _ _)); obtain ⟨⟨d0, d1⟩, -⟩ := run_2 (h1.blk (heap_alloc2_new w _ _)))
      go_ret2
      exact ⟨_, by rw [HI.out]; rfl, by rw [HI.out]; exact bytes_nil _, (by repeat (first | exact Ext.refl _ | assumption | refine Ext.alloc ?_ _ | refine Ext.drewN ?_ _ | refine ext_grow ?_ _ _ | refine Ext.trans ?_ (by assumption)))⟩
    have HI := Lib.hid (show modulesI ⟨mw, mh, pix⟩ s ⟨lo, hi'⟩ = ([], 2) by exact HI0.out)
    go_enter Try.func16, Try.ntmps16
    go_wp2_with (first | (go_at_call 22; (with_reducible refine (K1.out _ (by repeat (first | exact Ext.refl _ | assumption | refine Ext.alloc ?_ _ | refine Ext.drewN ?_ _ | refine ext_grow ?_ _ _ | refine Ext.trans ?_ (by assumption)))).mono ?_); rintro E w1 ⟨rfl, h1⟩; obtain ⟨⟨c0, c1, c2⟩, -⟩ := run_3 (h1.blk (heap_alloc2_old w _ _)); obtain ⟨⟨d0, d1⟩, -⟩ := run_2 (h1.blk (heap_alloc2_new w _ _))) | (go_at_call 23; (with_reducible refine (K2.out _).mono ?_); rintro E w2 ⟨rfl, h2⟩; have e0 := h2.get c0; have e1 := h2.get c1; have e2 := h2.get c2; have g0 := h2.get d0; have g1 := h2.get d1))
    go_ret2
    exact ⟨_, by rw [HI.out]; rfl, by rw [HI.out]; exact bytes_nil _, (by repeat (first | exact Ext.refl _ | assumption | refine Ext.alloc ?_ _ | refine Ext.drewN ?_ _ | refine ext_grow ?_ _ _ | refine Ext.trans ?_ (by assumption)))⟩
  have hq : decide (⟨lo, hi'⟩ : Con).Ok = true := decide_eq_true hco
  rw [hq] at K2
  have HO := Lib.hid hco
  clear hq
  by_cases s1 : s < 1
  · unfold imgVal conVal at *
    dsimp only at *
    clear hcm hco
    have HI := Lib.hid (show modulesI ⟨mw, mh, pix⟩ s ⟨lo, hi'⟩ = ([], 2) by rw [HD.out, if_pos HC.out, if_neg (fun h => by have := h.1; omega)])
    go_enter Try.func16, Try.ntmps16
    go_wp2_with (go_at_call 22; (with_reducible refine (K1.out _ (by repeat (first | exact Ext.refl _ | assumption | refine Ext.alloc ?_ _ | refine Ext.drewN ?_ _ | refine ext_grow ?_ _ _ | refine Ext.trans ?_ (by assumption)))).mono ?_); rintro E w1 ⟨rfl, h1⟩; obtain ⟨⟨c0, c1, c2⟩, -⟩ := run_3 (h1.blk (heap_alloc2_old w _ _)); obtain ⟨⟨d0, d1⟩, -⟩ := run_2 (h1.blk (heap_alloc2_new w _ _)))
    go_ret2
    exact ⟨_, by rw [HI.out]; rfl, by rw [HI.out]; exact bytes_nil _, (by repeat (first | exact Ext.refl _ | assumption | refine Ext.alloc ?_ _ | refine Ext.drewN ?_ _ | refine ext_grow ?_ _ _ | refine Ext.trans ?_ (by assumption)))⟩
  by_cases s2 : 2 < s
  · unfold imgVal conVal at *
    dsimp only at *
    clear hcm hco
    have HI := Lib.hid (show modulesI ⟨mw, mh, pix⟩ s ⟨lo, hi'⟩ = ([], 2) by rw [HD.out, if_pos HC.out, if_neg (fun h => by have := h.2.1; omega)])
    go_enter Try.func16, Try.ntmps16
    go_wp2_with (go_at_call 22; (with_reducible refine (K1.out _ (by repeat (first | exact Ext.refl _ | assumption | refine Ext.alloc ?_ _ | refine Ext.drewN ?_ _ | refine ext_grow ?_ _ _ | refine Ext.trans ?_ (by assumption)))).mono ?_); rintro E w1 ⟨rfl, h1⟩; obtain ⟨⟨c0, c1, c2⟩, -⟩ := run_3 (h1.blk (heap_alloc2_old w _ _)); obtain ⟨⟨d0, d1⟩, -⟩ := run_2 (h1.blk (heap_alloc2_new w _ _)))
    go_ret2
    exact ⟨_, by rw [HI.out]; rfl, by rw [HI.out]; exact bytes_nil _, (by repeat (first | exact Ext.refl _ | assumption | refine Ext.alloc ?_ _ | refine Ext.drewN ?_ _ | refine ext_grow ?_ _ _ | refine Ext.trans ?_ (by assumption)))⟩
  obtain ⟨S, rfl⟩ := Int.eq_ofNat_of_zero_le (show 0 ≤ s by omega)
  obtain ⟨⟨hw, hh, hln⟩, hpx⟩ := hcm
  dsimp only at hw hh hln hpx
  obtain ⟨ww, rfl⟩ := Int.eq_ofNat_of_zero_le (show 0 ≤ mw by omega)
  obtain ⟨hn, rfl⟩ := Int.eq_ofNat_of_zero_le (show 0 ≤ mh by omega)
  have hS : 1 ≤ S ∧ S ≤ 2 := by omega
  have hw' : 1 ≤ ww ∧ ww ≤ 16 := by omega
  have hh' : 1 ≤ hn ∧ hn ≤ 16 := by omega
  have t1 : (ww : Int).tmod (S : Int) = ((ww % S : Nat) : Int) := by rw [Int.tmod_eq_emod_of_nonneg (by omega)]; exact (Int.natCast_emod ww S).symm
  have t2 : (hn : Int).tmod (S : Int) = ((hn % S : Nat) : Int) := by rw [Int.tmod_eq_emod_of_nonneg (by omega)]; exact (Int.natCast_emod hn S).symm
  have HD2 := Lib.hid (show modulesI ⟨ww, hn, pix⟩ (S : Int) ⟨lo, hi'⟩ = if ww % S = 0 ∧ hn % S = 0 then (seenR pix (ww / S) (hn / S) S lo hi', 0) else ([], 21) by
    rw [HD.out, if_pos HC.out, if_pos ⟨by omega, by omega, HO.out⟩]
    have a1 : ((ww : Int) % (S : Int) = 0 ∧ (hn : Int) % (S : Int) = 0) ↔ (ww % S = 0 ∧ hn % S = 0) := by rw [← Int.natCast_emod, ← Int.natCast_emod]; omega
    dsimp only
    rw [show ((ww : Int) / (S : Int)).toNat = ww / S by rw [← Int.natCast_ediv]; rfl, show ((hn : Int) / (S : Int)).toNat = hn / S by rw [← Int.natCast_ediv]; rfl, Int.toNat_natCast]
    by_cases a2 : ww % S = 0 ∧ hn % S = 0
    · rw [if_pos a2, if_pos (a1.2 a2)]
    · rw [if_neg a2, if_neg (fun h => a2 (a1.1 h))])
  have K3 : Hid (∀ w', Ext w w' → ww % S = 0 → hn % S = 0 → Calls Try.prog 24 #[imgVal ⟨(ww : Int), (hn : Int), pix⟩ (.slice ao pix.length cap), .int .i64 (S : Int), conVal ⟨lo, hi'⟩] w' (OwnBytes (seenR pix (ww / S) (hn / S) S lo hi') w')) := Lib.hid (fun w' h a b => by
    have ew : ww / S * S = ww := Nat.div_mul_cancel (Nat.dvd_of_mod_eq_zero a)
    have eh : hn / S * S = hn := Nat.div_mul_cancel (Nat.dvd_of_mod_eq_zero b)
    have hl2 : pix.length = hn * ww := by rw [Int.mul_comm, ← Int.natCast_mul] at hln; exact Int.natCast_inj.1 hln
    have k := c_see (ww / S) (hn / S) S pix (.slice ao pix.length cap) ⟨lo, hi'⟩ w' (HV.out.ext h) hS ⟨Nat.pos_of_ne_zero (fun h0 => by rw [h0] at ew; omega), by rw [ew]; exact hw'.2⟩ ⟨Nat.pos_of_ne_zero (fun h0 => by rw [h0] at eh; omega), by rw [eh]; exact hh'.2⟩ (by rw [ew, eh]; exact hl2) hpx hco
    rw [ew, eh] at k
    exact k)
  have hS0 : (S : Int) ≠ 0 := by omega
  have hml := Nat.mod_lt ww (show 0 < S by omega)
  have hnl := Nat.mod_lt hn (show 0 < S by omega)
  unfold imgVal conVal at *
  dsimp only at *
  obtain ⟨a, ha⟩ : ∃ a, ww % S = a := ⟨_, rfl⟩
  obtain ⟨b, hb⟩ : ∃ b, hn % S = b := ⟨_, rfl⟩
  rw [ha] at t1 HD2 hml K3
  rw [hb] at t2 HD2 hnl K3
  clear hco hln hpx ha hb HD hw hh
  by_cases ha : a = 0
  case neg =>
    have HN := Lib.hid ha
    have q : ((a : Int) != 0) = true := by rw [bne_iff_ne]; omega
    have HI := Lib.hid (show modulesI ⟨ww, hn, pix⟩ (S : Int) ⟨lo, hi'⟩ = ([], 21) by rw [HD2.out, if_neg (fun h => HN.out h.1)])
    clear ha
    go_enter Try.func16, Try.ntmps16
    go_wp2_with (first | (go_at_call 22; (with_reducible refine (K1.out _ (by repeat (first | exact Ext.refl _ | assumption | refine Ext.alloc ?_ _ | refine Ext.drewN ?_ _ | refine ext_grow ?_ _ _ | refine Ext.trans ?_ (by assumption)))).mono ?_); rintro E w1 ⟨rfl, h1⟩; obtain ⟨⟨c0, c1, c2⟩, -⟩ := run_3 (h1.blk (heap_alloc2_old w _ _)); obtain ⟨⟨d0, d1⟩, -⟩ := run_2 (h1.blk (heap_alloc2_new w _ _))) | (go_at_call 23; (with_reducible refine (K2.out _).mono ?_); rintro E w2 ⟨rfl, h2⟩; have e0 := h2.get c0; have e1 := h2.get c1; have e2 := h2.get c2; have g0 := h2.get d0; have g1 := h2.get d1))
    go_ret2
    exact ⟨_, by rw [HI.out]; rfl, by rw [HI.out]; exact bytes_nil _, (by repeat (first | exact Ext.refl _ | assumption | refine Ext.alloc ?_ _ | refine Ext.drewN ?_ _ | refine ext_grow ?_ _ _ | refine Ext.trans ?_ (by assumption)))⟩
  subst ha
  by_cases hb : b = 0
  case neg =>
    have HN := Lib.hid hb
    have q : ((b : Int) != 0) = true := by rw [bne_iff_ne]; omega
    have HI := Lib.hid (show modulesI ⟨ww, hn, pix⟩ (S : Int) ⟨lo, hi'⟩ = ([], 21) by rw [HD2.out, if_neg (fun h => HN.out h.2)])
    clear hb
    go_enter Try.func16, Try.ntmps16
    go_wp2_with (first | (go_at_call 22; (with_reducible refine (K1.out _ (by repeat (first | exact Ext.refl _ | assumption | refine Ext.alloc ?_ _ | refine Ext.drewN ?_ _ | refine ext_grow ?_ _ _ | refine Ext.trans ?_ (by assumption)))).mono ?_); rintro E w1 ⟨rfl, h1⟩; obtain ⟨⟨c0, c1, c2⟩, -⟩ := run_3 (h1.blk (heap_alloc2_old w _ _)); obtain ⟨⟨d0, d1⟩, -⟩ := run_2 (h1.blk (heap_alloc2_new w _ _))) | (go_at_call 23; (with_reducible refine (K2.out _).mono ?_); rintro E w2 ⟨rfl, h2⟩; have e0 := h2.get c0; have e1 := h2.get c1; have e2 := h2.get c2; have g0 := h2.get d0; have g1 := h2.get d1))
    go_ret2
    exact ⟨_, by rw [HI.out]; rfl, by rw [HI.out]; exact bytes_nil _, (by repeat (first | exact Ext.refl _ | assumption | refine Ext.alloc ?_ _ | refine Ext.drewN ?_ _ | refine ext_grow ?_ _ _ | refine Ext.trans ?_ (by assumption)))⟩
  subst hb
  have HI := Lib.hid (show modulesI ⟨ww, hn, pix⟩ (S : Int) ⟨lo, hi'⟩ = (seenR pix (ww / S) (hn / S) S lo hi', 0) by rw [HD2.out, if_pos ⟨rfl, rfl⟩])
  have K4 := Lib.hid (fun w' (h : Ext w w') => K3.out w' h rfl rfl)
  unfold OwnBytes at K4
  clear K3
  go_enter Try.func16, Try.ntmps16
  go_wp2_with (first | (go_at_call 22; (with_reducible refine (K1.out _ (by repeat (first | exact Ext.refl _ | assumption | refine Ext.alloc ?_ _ | refine Ext.drewN ?_ _ | refine ext_grow ?_ _ _ | refine Ext.trans ?_ (by assumption)))).mono ?_); rintro E w1 ⟨rfl, h1⟩; obtain ⟨⟨c0, c1, c2⟩, -⟩ := run_3 (h1.blk (heap_alloc2_old w _ _)); obtain ⟨⟨d0, d1⟩, -⟩ := run_2 (h1.blk (heap_alloc2_new w _ _))) | (go_at_call 23; (with_reducible refine (K2.out _).mono ?_); rintro E w2 ⟨rfl, h2⟩; have e0 := h2.get c0; have e1 := h2.get c1; have e2 := h2.get c2; have g0 := h2.get d0; have g1 := h2.get d1) | (go_at_call 24; (with_reducible refine (K4.out _ (by repeat (first | exact Ext.refl _ | assumption | refine Ext.alloc ?_ _ | refine Ext.drewN ?_ _ | refine ext_grow ?_ _ _ | refine Ext.trans ?_ (by assumption)))).mono ?_); rintro E w3 ⟨v3, rfl, h0, h3⟩))
  go_ret2
  exact ⟨_, by rw [HI.out]; rfl, by rw [HI.out]; exact BytesAt.of_owns h0, (by repeat (first | exact Ext.refl _ | assumption | refine Ext.alloc ?_ _ | refine Ext.drewN ?_ _ | refine ext_grow ?_ _ _ | refine Ext.trans ?_ (by assumption)))⟩
set_option maxRecDepth 100000 in
set_option maxHeartbeats 8000000 in
theorem r_Modules (m : Img) (v : Value) (s : Int) (c : Con) (w : World) (hv : IntsAt w v m.pix) (hl : m.pix.length ≤ maxLen) :
    Calls Try.prog 19 #[imgVal m v, .int .i64 s, conVal c] w (BytesErr (modulesI m s c) w) := by
  have K1 := Lib.hid (fun w' (h : Ext w w') => r_Camera m v w' (hv.ext h) hl)
  have K2 := Lib.hid (fun w' => r_contrast c w')
  have HV := Lib.hid hv
  obtain ⟨ao, cap, rfl, -, -⟩ := hv.form
  clear hv
  obtain ⟨mw, mh, pix⟩ := m
  obtain ⟨lo, hi'⟩ := c
  have HD := Lib.hid (modulesI_def ⟨mw, mh, pix⟩ s ⟨lo, hi'⟩)
  by_cases hcm : (⟨mw, mh, pix⟩ : Img).Camera
  case neg =>
    have HN := Lib.hid hcm
    have hq : decide (⟨mw, mh, pix⟩ : Img).Camera = false := decide_eq_false hcm
    rw [hq] at K1
    unfold imgVal conVal at *
    dsimp only at *
    clear hcm hq
    have HI := Lib.hid (show modulesI ⟨mw, mh, pix⟩ s ⟨lo, hi'⟩ = ([], 20) by rw [HD.out, if_neg HN.out])
    go_enter Try.func19, Try.ntmps19
    go_wp2_with (go_at_call 26; (with_reducible refine (K1.out _ (by repeat (first | exact Ext.refl _ | assumption | refine Ext.alloc ?_ _ | refine Ext.drewN ?_ _ | refine ext_grow ?_ _ _ | refine Ext.trans ?_ (by assumption)))).mono ?_); rintro E w1 ⟨rfl, h1⟩; obtain ⟨⟨c0, c1, c2⟩, -⟩ := run_3 (h1.blk (heap_alloc2_old w _ _)); obtain ⟨⟨d0, d1⟩, -⟩ := run_2 (h1.blk (heap_alloc2_new w _ _)))
    go_ret2
    exact ⟨_, by rw [HI.out]; rfl, by rw [HI.out]; exact bytes_nil _, (by repeat (first | exact Ext.refl _ | assumption | refine Ext.alloc ?_ _ | refine Ext.drewN ?_ _ | refine ext_grow ?_ _ _ | refine Ext.trans ?_ (by assumption)))⟩
  have hq : decide (⟨mw, mh, pix⟩ : Img).Camera = true := decide_eq_true hcm
  rw [hq] at K1
  have HC := Lib.hid hcm
  clear hq
  by_cases hco : (⟨lo, hi'⟩ : Con).Ok
  case neg =>
    have HN := Lib.hid hco
    have hq : decide (⟨lo, hi'⟩ : Con).Ok = false := decide_eq_false hco
    rw [hq] at K2
    unfold imgVal conVal at *
    dsimp only at *
    clear hcm hco hq
    have HI0 := Lib.hid (show modulesI ⟨mw, mh, pix⟩ s ⟨lo, hi'⟩ = ([], 2) by rw [HD.out, if_pos HC.out, if_neg (fun h => HN.out h.2.2)])
    by_cases s1 : s < 1
    · have HI := Lib.hid (show modulesI ⟨mw, mh, pix⟩ s ⟨lo, hi'⟩ = ([], 2) by exact HI0.out)
      go_enter Try.func19, Try.ntmps19
      go_wp2_with (go_at_call 26; (with_reducible refine (K1.out _ (by repeat (first | exact Ext.refl _ | assumption | refine Ext.alloc ?_ _ | refine Ext.drewN ?_ _ | refine ext_grow ?_ _ _ | refine Ext.trans ?_ (by assumption)))).mono ?_); rintro E w1 ⟨rfl, h1⟩; obtain ⟨⟨c0, c1, c2⟩, -⟩ := run_3 (h1.blk (heap_alloc2_old w _ _)); obtain ⟨⟨d0, d1⟩, -⟩ := run_2 (h1.blk (heap_alloc2_new w _ _)))
      go_ret2
      exact ⟨_, by rw [HI.out]; rfl, by rw [HI.out]; exact bytes_nil _, (by repeat (first | exact Ext.refl _ | assumption | refine Ext.alloc ?_ _ | refine Ext.drewN ?_ _ | refine ext_grow ?_ _ _ | refine Ext.trans ?_ (by assumption)))⟩
    by_cases s2 : 2 < s
    · have HI := Lib.hid (show modulesI ⟨mw, mh, pix⟩ s ⟨lo, hi'⟩ = ([], 2) by exact HI0.out)
      go_enter Try.func19, Try.ntmps19
      go_wp2_with (go_at_call 26; (with_reducible refine (K1.out _ (by repeat (first | exact Ext.refl _ | assumption | refine Ext.alloc ?_ _ | refine Ext.drewN ?_ _ | refine ext_grow ?_ _ _ | refine Ext.trans ?_ (by assumption)))).mono ?_); rintro E w1 ⟨rfl, h1⟩; obtain ⟨⟨c0, c1, c2⟩, -⟩ := run_3 (h1.blk (heap_alloc2_old w _ _)); obtain ⟨⟨d0, d1⟩, -⟩ := run_2 (h1.blk (heap_alloc2_new w _ _)))
      go_ret2
      exact ⟨_, by rw [HI.out]; rfl, by rw [HI.out]; exact bytes_nil _, (by repeat (first | exact Ext.refl _ | assumption | refine Ext.alloc ?_ _ | refine Ext.drewN ?_ _ | refine ext_grow ?_ _ _ | refine Ext.trans ?_ (by assumption)))⟩
    have HI := Lib.hid (show modulesI ⟨mw, mh, pix⟩ s ⟨lo, hi'⟩ = ([], 2) by exact HI0.out)
    go_enter Try.func19, Try.ntmps19
    go_wp2_with (first | (go_at_call 26; (with_reducible refine (K1.out _ (by repeat (first | exact Ext.refl _ | assumption | refine Ext.alloc ?_ _ | refine Ext.drewN ?_ _ | refine ext_grow ?_ _ _ | refine Ext.trans ?_ (by assumption)))).mono ?_); rintro E w1 ⟨rfl, h1⟩; obtain ⟨⟨c0, c1, c2⟩, -⟩ := run_3 (h1.blk (heap_alloc2_old w _ _)); obtain ⟨⟨d0, d1⟩, -⟩ := run_2 (h1.blk (heap_alloc2_new w _ _))) | (go_at_call 27; (with_reducible refine (K2.out _).mono ?_); rintro E w2 ⟨rfl, h2⟩; have e0 := h2.get c0; have e1 := h2.get c1; have e2 := h2.get c2; have g0 := h2.get d0; have g1 := h2.get d1))
    go_ret2
    exact ⟨_, by rw [HI.out]; rfl, by rw [HI.out]; exact bytes_nil _, (by repeat (first | exact Ext.refl _ | assumption | refine Ext.alloc ?_ _ | refine Ext.drewN ?_ _ | refine ext_grow ?_ _ _ | refine Ext.trans ?_ (by assumption)))⟩
  have hq : decide (⟨lo, hi'⟩ : Con).Ok = true := decide_eq_true hco
  rw [hq] at K2
  have HO := Lib.hid hco
  clear hq
  by_cases s1 : s < 1
  · unfold imgVal conVal at *
    dsimp only at *
    clear hcm hco
    have HI := Lib.hid (show modulesI ⟨mw, mh, pix⟩ s ⟨lo, hi'⟩ = ([], 2) by rw [HD.out, if_pos HC.out, if_neg (fun h => by have := h.1; omega)])
    go_enter Try.func19, Try.ntmps19
    go_wp2_with (go_at_call 26; (with_reducible refine (K1.out _ (by repeat (first | exact Ext.refl _ | assumption | refine Ext.alloc ?_ _ | refine Ext.drewN ?_ _ | refine ext_grow ?_ _ _ | refine Ext.trans ?_ (by assumption)))).mono ?_); rintro E w1 ⟨rfl, h1⟩; obtain ⟨⟨c0, c1, c2⟩, -⟩ := run_3 (h1.blk (heap_alloc2_old w _ _)); obtain ⟨⟨d0, d1⟩, -⟩ := run_2 (h1.blk (heap_alloc2_new w _ _)))
    go_ret2
    exact ⟨_, by rw [HI.out]; rfl, by rw [HI.out]; exact bytes_nil _, (by repeat (first | exact Ext.refl _ | assumption | refine Ext.alloc ?_ _ | refine Ext.drewN ?_ _ | refine ext_grow ?_ _ _ | refine Ext.trans ?_ (by assumption)))⟩
  by_cases s2 : 2 < s
  · unfold imgVal conVal at *
    dsimp only at *
    clear hcm hco
    have HI := Lib.hid (show modulesI ⟨mw, mh, pix⟩ s ⟨lo, hi'⟩ = ([], 2) by rw [HD.out, if_pos HC.out, if_neg (fun h => by have := h.2.1; omega)])
    go_enter Try.func19, Try.ntmps19
    go_wp2_with (go_at_call 26; (with_reducible refine (K1.out _ (by repeat (first | exact Ext.refl _ | assumption | refine Ext.alloc ?_ _ | refine Ext.drewN ?_ _ | refine ext_grow ?_ _ _ | refine Ext.trans ?_ (by assumption)))).mono ?_); rintro E w1 ⟨rfl, h1⟩; obtain ⟨⟨c0, c1, c2⟩, -⟩ := run_3 (h1.blk (heap_alloc2_old w _ _)); obtain ⟨⟨d0, d1⟩, -⟩ := run_2 (h1.blk (heap_alloc2_new w _ _)))
    go_ret2
    exact ⟨_, by rw [HI.out]; rfl, by rw [HI.out]; exact bytes_nil _, (by repeat (first | exact Ext.refl _ | assumption | refine Ext.alloc ?_ _ | refine Ext.drewN ?_ _ | refine ext_grow ?_ _ _ | refine Ext.trans ?_ (by assumption)))⟩
  obtain ⟨S, rfl⟩ := Int.eq_ofNat_of_zero_le (show 0 ≤ s by omega)
  obtain ⟨⟨hw, hh, hln⟩, hpx⟩ := hcm
  dsimp only at hw hh hln hpx
  obtain ⟨ww, rfl⟩ := Int.eq_ofNat_of_zero_le (show 0 ≤ mw by omega)
  obtain ⟨hn, rfl⟩ := Int.eq_ofNat_of_zero_le (show 0 ≤ mh by omega)
  have hS : 1 ≤ S ∧ S ≤ 2 := by omega
  have hw' : 1 ≤ ww ∧ ww ≤ 16 := by omega
  have hh' : 1 ≤ hn ∧ hn ≤ 16 := by omega
  have t1 : (ww : Int).tmod (S : Int) = ((ww % S : Nat) : Int) := by rw [Int.tmod_eq_emod_of_nonneg (by omega)]; exact (Int.natCast_emod ww S).symm
  have t2 : (hn : Int).tmod (S : Int) = ((hn % S : Nat) : Int) := by rw [Int.tmod_eq_emod_of_nonneg (by omega)]; exact (Int.natCast_emod hn S).symm
  have HD2 := Lib.hid (show modulesI ⟨ww, hn, pix⟩ (S : Int) ⟨lo, hi'⟩ = if ww % S = 0 ∧ hn % S = 0 then (seenR pix (ww / S) (hn / S) S lo hi', 0) else ([], 21) by
    rw [HD.out, if_pos HC.out, if_pos ⟨by omega, by omega, HO.out⟩]
    have a1 : ((ww : Int) % (S : Int) = 0 ∧ (hn : Int) % (S : Int) = 0) ↔ (ww % S = 0 ∧ hn % S = 0) := by rw [← Int.natCast_emod, ← Int.natCast_emod]; omega
    dsimp only
    rw [show ((ww : Int) / (S : Int)).toNat = ww / S by rw [← Int.natCast_ediv]; rfl, show ((hn : Int) / (S : Int)).toNat = hn / S by rw [← Int.natCast_ediv]; rfl, Int.toNat_natCast]
    by_cases a2 : ww % S = 0 ∧ hn % S = 0
    · rw [if_pos a2, if_pos (a1.2 a2)]
    · rw [if_neg a2, if_neg (fun h => a2 (a1.1 h))])
  have K3 : Hid (∀ w', Ext w w' → ww % S = 0 → hn % S = 0 → Calls Try.prog 28 #[imgVal ⟨(ww : Int), (hn : Int), pix⟩ (.slice ao pix.length cap), .int .i64 (S : Int), conVal ⟨lo, hi'⟩] w' (OwnBytes (seenR pix (ww / S) (hn / S) S lo hi') w')) := Lib.hid (fun w' h a b => by
    have ew : ww / S * S = ww := Nat.div_mul_cancel (Nat.dvd_of_mod_eq_zero a)
    have eh : hn / S * S = hn := Nat.div_mul_cancel (Nat.dvd_of_mod_eq_zero b)
    have hl2 : pix.length = hn * ww := by rw [Int.mul_comm, ← Int.natCast_mul] at hln; exact Int.natCast_inj.1 hln
    have k := r_Seen (ww / S) (hn / S) S pix (.slice ao pix.length cap) ⟨lo, hi'⟩ w' (HV.out.ext h) hS ⟨Nat.pos_of_ne_zero (fun h0 => by rw [h0] at ew; omega), by rw [ew]; exact hw'.2⟩ ⟨Nat.pos_of_ne_zero (fun h0 => by rw [h0] at eh; omega), by rw [eh]; exact hh'.2⟩ (by rw [ew, eh]; exact hl2) hpx hco
    rw [ew, eh] at k
    exact k)
  have hS0 : (S : Int) ≠ 0 := by omega
  have hml := Nat.mod_lt ww (show 0 < S by omega)
  have hnl := Nat.mod_lt hn (show 0 < S by omega)
  unfold imgVal conVal at *
  dsimp only at *
  obtain ⟨a, ha⟩ : ∃ a, ww % S = a := ⟨_, rfl⟩
  obtain ⟨b, hb⟩ : ∃ b, hn % S = b := ⟨_, rfl⟩
  rw [ha] at t1 HD2 hml K3
  rw [hb] at t2 HD2 hnl K3
  clear hco hln hpx ha hb HD hw hh
  by_cases ha : a = 0
  case neg =>
    have HN := Lib.hid ha
    have q : ((a : Int) != 0) = true := by rw [bne_iff_ne]; omega
    have HI := Lib.hid (show modulesI ⟨ww, hn, pix⟩ (S : Int) ⟨lo, hi'⟩ = ([], 21) by rw [HD2.out, if_neg (fun h => HN.out h.1)])
    clear ha
    go_enter Try.func19, Try.ntmps19
    go_wp2_with (first | (go_at_call 26; (with_reducible refine (K1.out _ (by repeat (first | exact Ext.refl _ | assumption | refine Ext.alloc ?_ _ | refine Ext.drewN ?_ _ | refine ext_grow ?_ _ _ | refine Ext.trans ?_ (by assumption)))).mono ?_); rintro E w1 ⟨rfl, h1⟩; obtain ⟨⟨c0, c1, c2⟩, -⟩ := run_3 (h1.blk (heap_alloc2_old w _ _)); obtain ⟨⟨d0, d1⟩, -⟩ := run_2 (h1.blk (heap_alloc2_new w _ _))) | (go_at_call 27; (with_reducible refine (K2.out _).mono ?_); rintro E w2 ⟨rfl, h2⟩; have e0 := h2.get c0; have e1 := h2.get c1; have e2 := h2.get c2; have g0 := h2.get d0; have g1 := h2.get d1))
    go_ret2
    exact ⟨_, by rw [HI.out]; rfl, by rw [HI.out]; exact bytes_nil _, (by repeat (first | exact Ext.refl _ | assumption | refine Ext.alloc ?_ _ | refine Ext.drewN ?_ _ | refine ext_grow ?_ _ _ | refine Ext.trans ?_ (by assumption)))⟩
  subst ha
  by_cases hb : b = 0
  case neg =>
    have HN := Lib.hid hb
    have q : ((b : Int) != 0) = true := by rw [bne_iff_ne]; omega
    have HI := Lib.hid (show modulesI ⟨ww, hn, pix⟩ (S : Int) ⟨lo, hi'⟩ = ([], 21) by rw [HD2.out, if_neg (fun h => HN.out h.2)])
    clear hb
    go_enter Try.func19, Try.ntmps19
    go_wp2_with (first | (go_at_call 26; (with_reducible refine (K1.out _ (by repeat (first | exact Ext.refl _ | assumption | refine Ext.alloc ?_ _ | refine Ext.drewN ?_ _ | refine ext_grow ?_ _ _ | refine Ext.trans ?_ (by assumption)))).mono ?_); rintro E w1 ⟨rfl, h1⟩; obtain ⟨⟨c0, c1, c2⟩, -⟩ := run_3 (h1.blk (heap_alloc2_old w _ _)); obtain ⟨⟨d0, d1⟩, -⟩ := run_2 (h1.blk (heap_alloc2_new w _ _))) | (go_at_call 27; (with_reducible refine (K2.out _).mono ?_); rintro E w2 ⟨rfl, h2⟩; have e0 := h2.get c0; have e1 := h2.get c1; have e2 := h2.get c2; have g0 := h2.get d0; have g1 := h2.get d1))
    go_ret2
    exact ⟨_, by rw [HI.out]; rfl, by rw [HI.out]; exact bytes_nil _, (by repeat (first | exact Ext.refl _ | assumption | refine Ext.alloc ?_ _ | refine Ext.drewN ?_ _ | refine ext_grow ?_ _ _ | refine Ext.trans ?_ (by assumption)))⟩
  subst hb
  have HI := Lib.hid (show modulesI ⟨ww, hn, pix⟩ (S : Int) ⟨lo, hi'⟩ = (seenR pix (ww / S) (hn / S) S lo hi', 0) by rw [HD2.out, if_pos ⟨rfl, rfl⟩])
  have K4 := Lib.hid (fun w' (h : Ext w w') => K3.out w' h rfl rfl)
  unfold OwnBytes at K4
  clear K3
  go_enter Try.func19, Try.ntmps19
  go_wp2_with (first | (go_at_call 26; (with_reducible refine (K1.out _ (by repeat (first | exact Ext.refl _ | assumption | refine Ext.alloc ?_ _ | refine Ext.drewN ?_ _ | refine ext_grow ?_ _ _ | refine Ext.trans ?_ (by assumption)))).mono ?_); rintro E w1 ⟨rfl, h1⟩; obtain ⟨⟨c0, c1, c2⟩, -⟩ := run_3 (h1.blk (heap_alloc2_old w _ _)); obtain ⟨⟨d0, d1⟩, -⟩ := run_2 (h1.blk (heap_alloc2_new w _ _))) | (go_at_call 27; (with_reducible refine (K2.out _).mono ?_); rintro E w2 ⟨rfl, h2⟩; have e0 := h2.get c0; have e1 := h2.get c1; have e2 := h2.get c2; have g0 := h2.get d0; have g1 := h2.get d1) | (go_at_call 28; (with_reducible refine (K4.out _ (by repeat (first | exact Ext.refl _ | assumption | refine Ext.alloc ?_ _ | refine Ext.drewN ?_ _ | refine ext_grow ?_ _ _ | refine Ext.trans ?_ (by assumption)))).mono ?_); rintro E w3 ⟨v3, rfl, h0, h3⟩))
  go_ret2
  exact ⟨_, by rw [HI.out]; rfl, by rw [HI.out]; exact BytesAt.of_owns h0, (by repeat (first | exact Ext.refl _ | assumption | refine Ext.alloc ?_ _ | refine Ext.drewN ?_ _ | refine ext_grow ?_ _ _ | refine Ext.trans ?_ (by assumption)))⟩
end Go.Proofs.Ytlnofbdhamingaa
